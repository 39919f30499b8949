/- Texts of ours, joined: 11 of them. Conditions: none. -/
import Derived.Test.YtehmifpofpifkaaZb
import Derived.Laws.Cover3
import Derived.SizedLaws
namespace Am
open Go.Sx (getL putL getL_put)

/-! maps as lists of entries -/
theorem getL_mem {l : List (Int × BidV)} : ∀ {k : Int} {v : BidV}, getL l k = some v → (k, v) ∈ l := by
  induction l with
  | nil => intro k v h; cases h
  | cons p l ih =>
    intro k v h
    rw [getL] at h
    split at h
    · rename_i hk
      cases h
      rw [← hk]; exact List.mem_cons_self ..
    · exact List.mem_cons_of_mem _ (ih h)
theorem getL_no {l : List (Int × BidV)} : ∀ {k : Int}, getL l k = none → ∀ p ∈ l, p.1 ≠ k := by
  induction l with
  | nil => intro k h p hp; cases hp
  | cons q l ih =>
    intro k h p hp
    rw [getL] at h
    split at h
    · cases h
    · rename_i hk
      rcases List.mem_cons.1 hp with e | e
      · rw [e]; exact hk
      · exact ih h p e
theorem putL_mem : ∀ {l : List (Int × BidV)} {k : Int} {v : BidV} {p : Int × BidV}, p ∈ putL l k v → p = (k, v) ∨ p ∈ l
  | [], k, v, p, h => by simpa [putL] using h
  | q :: l, k, v, p, h => by
    rw [putL] at h
    split at h
    · rcases List.mem_cons.1 h with e | e
      · exact .inl e
      · exact .inr (List.mem_cons_of_mem _ e)
    · rcases List.mem_cons.1 h with e | e
      · exact .inr (e ▸ List.mem_cons_self ..)
      · exact (putL_mem e).imp id (List.mem_cons_of_mem _)
theorem putL_keys : ∀ (l : List (Int × BidV)) (k : Int) (v : BidV), (putL l k v).map (·.1) = if k ∈ l.map (·.1) then l.map (·.1) else l.map (·.1) ++ [k]
  | [], k, v => by simp [putL]
  | q :: l, k, v => by
    rw [putL]
    by_cases h : q.1 = k
    · rw [if_pos h]; simp [h]
    · rw [if_neg h, List.map_cons, putL_keys l k v]
      by_cases hk : k ∈ l.map (·.1)
      · rw [if_pos hk, if_pos (by rw [List.map_cons]; exact List.mem_cons_of_mem _ hk), List.map_cons]
      · rw [if_neg hk, if_neg (by rw [List.map_cons]; intro e; rcases List.mem_cons.1 e with e | e; exact h e.symm; exact hk e), List.map_cons]; rfl
/-- what the map holds -/
structure OwnIs (os : List BidV) (l : List (Int × BidV)) : Prop where
  val : ∀ p ∈ l, p.2.who = p.1 ∧ p.2 ∈ os ∧ ∀ o ∈ os, o.who = p.1 → o = p.2 ∨ beats p.2 o = true
  all : ∀ o ∈ os, ∃ p ∈ l, p.1 = o.who
  nd : (l.map (·.1)).Nodup
def ownC (l : List (Int × BidV)) (o : BidV) : Bool := match getL l o.who with | none => true | some v => beats o v
def ownS (l : List (Int × BidV)) (o : BidV) : List (Int × BidV) := if ownC l o = true then putL l o.who o else l
theorem getL_of {l : List (Int × BidV)} (hn : (l.map (·.1)).Nodup) {p : Int × BidV} (hp : p ∈ l) : getL l p.1 = some p.2 := by
  induction l with
  | nil => cases hp
  | cons q l ih =>
    rw [List.map_cons, List.nodup_cons] at hn
    rw [getL]
    rcases List.mem_cons.1 hp with e | e
    · rw [if_pos (by rw [e]), e]
    · rw [if_neg (show ¬ q.1 = p.1 from fun h => hn.1 (by rw [h]; exact List.mem_map.2 ⟨p, e, rfl⟩)), ih hn.2 e]
theorem own_step {os : List BidV} {l : List (Int × BidV)} (h : OwnIs os l) (o : BidV) : OwnIs (os ++ [o]) (ownS l o) := by
  have htr : ∀ a b c : BidV, beats a b = true → beats b c = true → beats a c = true := fun a b c h1 h2 => by rw [beats_iff] at *; omega
  unfold ownS ownC
  cases hg : getL l o.who with
  | none =>
    have hno := getL_no hg
    rw [if_pos rfl]
    have hnm : o.who ∉ l.map (·.1) := fun e => by obtain ⟨p, hp, e⟩ := List.mem_map.1 e; exact hno p hp e
    have hk := putL_keys l o.who o
    rw [if_neg hnm] at hk
    refine ⟨fun p hp => ?_, fun q hq => ?_, ?_⟩
    · rcases putL_mem hp with e | e
      · rw [e]
        refine ⟨rfl, by simp, fun q hq hw => ?_⟩
        rcases List.mem_append.1 hq with e' | e'
        · obtain ⟨r, hr, hrw⟩ := h.all q e'
          exact absurd (hrw.trans hw) (hno r hr)
        · exact .inl (by simpa using e')
      · obtain ⟨a, b, c⟩ := h.val p e
        refine ⟨a, List.mem_append_left _ b, fun q hq hw => ?_⟩
        rcases List.mem_append.1 hq with e' | e'
        · exact c q e' hw
        · simp at e'; rw [e'] at hw; exact absurd hw.symm (hno p e)
    · rcases List.mem_append.1 hq with e | e
      · obtain ⟨r, hr, hrw⟩ := h.all q e
        have : q.who ∈ (putL l o.who o).map (·.1) := by rw [hk]; exact List.mem_append_left _ (List.mem_map.2 ⟨r, hr, hrw⟩)
        obtain ⟨p, hp, e⟩ := List.mem_map.1 this
        exact ⟨p, hp, e⟩
      · simp at e
        have : q.who ∈ (putL l o.who o).map (·.1) := by rw [hk, e]; simp
        obtain ⟨p, hp, e⟩ := List.mem_map.1 this
        exact ⟨p, hp, e⟩
    · rw [hk]
      exact List.nodup_append.2 ⟨h.nd, by simp, fun a ha b hb => by simp at hb; rw [hb]; exact fun e => hnm (e ▸ ha)⟩
  | some v =>
    have hm := getL_mem hg
    obtain ⟨v1, v2, v3⟩ := h.val _ hm
    have hmk : o.who ∈ l.map (·.1) := List.mem_map.2 ⟨_, hm, rfl⟩
    by_cases hb : beats o v = true
    · simp only [hb, if_true]
      have hk := putL_keys l o.who o
      rw [if_pos hmk] at hk
      have hin : ∀ p ∈ putL l o.who o, p = (o.who, o) ∨ (p ∈ l ∧ p.1 ≠ o.who) := by
        intro p hp
        by_cases hpo : p.1 = o.who
        · left
          have hgp := getL_of (by rw [hk]; exact h.nd) hp
          rw [getL_put, if_pos hpo.symm] at hgp
          cases hgp
          exact Prod.ext hpo (by simp_all)
        · rcases putL_mem hp with e | e
          · exact .inl e
          · exact .inr ⟨e, hpo⟩
      refine ⟨fun p hp => ?_, fun q hq => ?_, by rw [hk]; exact h.nd⟩
      · rcases hin p hp with e | ⟨e, hne⟩
        · rw [e]
          refine ⟨rfl, by simp, fun q hq hw => ?_⟩
          rcases List.mem_append.1 hq with e' | e'
          · rcases v3 q e' hw with e2 | e2
            · exact .inr (e2 ▸ hb)
            · exact .inr (htr _ _ _ hb e2)
          · exact .inl (by simpa using e')
        · obtain ⟨a, b, c⟩ := h.val p e
          refine ⟨a, List.mem_append_left _ b, fun q hq hw => ?_⟩
          rcases List.mem_append.1 hq with e' | e'
          · exact c q e' hw
          · simp at e'; rw [e'] at hw; exact absurd hw.symm hne
      · have : q.who ∈ (putL l o.who o).map (·.1) := by
          rw [hk]
          rcases List.mem_append.1 hq with e | e
          · obtain ⟨r, hr, hrw⟩ := h.all q e
            exact List.mem_map.2 ⟨r, hr, hrw⟩
          · simp at e; rw [e]; exact hmk
        obtain ⟨p, hp, e⟩ := List.mem_map.1 this
        exact ⟨p, hp, e⟩
    · simp only [hb, Bool.false_eq_true, if_false]
      refine ⟨fun p hp => ?_, fun q hq => ?_, h.nd⟩
      · obtain ⟨a, b, c⟩ := h.val p hp
        refine ⟨a, List.mem_append_left _ b, fun q hq hw => ?_⟩
        rcases List.mem_append.1 hq with e' | e'
        · exact c q e' hw
        · simp at e'
          rw [e'] at hw ⊢
          have hpv : p.2 = v := by
            have := getL_of h.nd hp
            rw [← hw, hg] at this
            cases this; rfl
          rw [hpv]
          rw [Bool.not_eq_true, beats_no] at hb
          simp only at v1
          by_cases he : o = v
          · exact .inl he
          · right
            rw [beats_iff]
            by_cases h3 : o.way = v.way ∧ o.most = v.most
            · exact absurd (bid_ext v1.symm h3.1 h3.2) he
            · omega
      · rcases List.mem_append.1 hq with e | e
        · exact h.all q e
        · simp at e; rw [e]; exact ⟨_, hm, rfl⟩
def ownF (rs : List Int) : List BidV → List (Int × BidV) → List (Int × BidV)
  | [], l => l
  | b :: bs, l => ownF rs bs (if 0 < (offer1 rs b).most then ownS l (offer1 rs b) else l)
theorem ownF_drop (rs : List Int) (bs : List BidV) (k : Nat) (b : BidV) (l : List (Int × BidV)) (h : bs[k]? = some b) : ownF rs (bs.drop k) l = ownF rs (bs.drop (k + 1)) (if 0 < (offer1 rs b).most then ownS l (offer1 rs b) else l) := by
  obtain ⟨h1, h2⟩ := List.getElem?_eq_some_iff.1 h
  rw [List.drop_eq_getElem_cons h1, h2, ownF]
theorem ownF_is (rs : List Int) : ∀ (bs as_ : List BidV) (l : List (Int × BidV)), OwnIs (offs rs as_) l → OwnIs (offs rs (as_ ++ bs)) (ownF rs bs l)
  | [], as_, l, h => by rw [List.append_nil]; exact h
  | b :: bs, as_, l, h => by
    rw [ownF, show as_ ++ b :: bs = (as_ ++ [b]) ++ bs by simp]
    refine ownF_is rs bs _ _ ?_
    rw [offs_snoc]
    by_cases hb : 0 < (offer1 rs b).most
    · rw [if_pos hb, if_pos hb]; exact own_step h _
    · rw [if_neg hb, if_neg hb]; exact h
theorem ownF_own (rs : List Int) (bs : List BidV) : OwnIs (offs rs bs) (ownF rs bs []) := by
  have := ownF_is rs bs [] [] ⟨fun _ h => (by cases h), fun o h => (by simp [offs] at h), by simp⟩
  simpa using this
def secT : List BidV → Int
  | [] => 0
  | p :: _ => p.most
/-- the program's sale, from the sorted offers -/
def sellP (rs : List Int) (start least : Int) (s : List BidV) : KnockV := match s with
  | [] => ⟨-1, 0⟩
  | o :: t => if least = 0 ∨ o.most < least then ⟨-1, 0⟩ else ⟨o.who, max least (priceF rs start o.most (secT t))⟩
theorem sell_eq {rs : List Int} {start least : Int} {os s : List BidV} {l : List (Int × BidV)} (h : OwnIs os l) (hp : s.Perm (l.map (·.2))) (hs : s.Pairwise (fun a b => beats b a = false)) (h1 : ∀ o ∈ os, 1 ≤ o.most) : sellP rs start least s = knockF rs start least os := by
  have hin : ∀ v ∈ s, v ∈ os := fun v hv => by
    obtain ⟨p, hp', e⟩ := List.mem_map.1 (hp.mem_iff.1 hv)
    rw [← e]; exact (h.val p hp').2.1
  have hof : ∀ o ∈ os, ∃ v ∈ s, v.who = o.who ∧ (o = v ∨ beats v o = true) := fun o ho => by
    obtain ⟨p, hp', e⟩ := h.all o ho
    obtain ⟨a, b, c⟩ := h.val p hp'
    exact ⟨p.2, hp.mem_iff.2 (List.mem_map.2 ⟨p, hp', rfl⟩), a.trans e, c o ho e.symm⟩
  have hnd : (s.map (·.who)).Nodup := by
    refine (hp.map _).nodup_iff.2 ?_
    rw [List.map_map, show l.map ((fun v : BidV => v.who) ∘ fun p : Int × BidV => p.2) = l.map (fun p : Int × BidV => p.1) from List.map_congr_left fun p hp' => (h.val p hp').1]
    exact h.nd
  have htr : ∀ a b c : BidV, a = b ∨ beats a b = true → (c = b ∨ beats b c = true) → (c = a ∨ beats a c = true) := fun a b c e1 e2 => by
    rcases e1 with e1 | e1
    · rw [e1]; exact e2
    · rcases e2 with e2 | e2
      · rw [e2]; exact .inr e1
      · right; rw [beats_iff] at *; omega
  match s, hin, hof, hnd, hs with
  | [], hin, hof, _, _ =>
    have : os = [] := List.eq_nil_iff_forall_not_mem.2 fun o ho => by obtain ⟨v, hv, _⟩ := hof o ho; cases hv
    rw [this]; rfl
  | o :: t, hin, hof, hnd, hs =>
    have hst := List.pairwise_cons.1 hs
    rw [List.map_cons, List.nodup_cons] at hnd
    have hne : ∀ v ∈ t, v.who ≠ o.who := fun v hv e => hnd.1 (e ▸ List.mem_map.2 ⟨v, hv, rfl⟩)
    have hbt : ∀ v ∈ t, beats o v = true := fun v hv => by
      have h2 := hst.1 v hv; have h3 := hne v hv
      rw [beats_no] at h2; rw [beats_iff]; omega
    have hw : IsWin os o := ⟨hin o (List.mem_cons_self ..), fun q hq => by
      obtain ⟨v, hv, _, e⟩ := hof q hq
      rcases List.mem_cons.1 hv with e' | e'
      · rw [e'] at e; exact e
      · exact htr o v q (.inr (hbt v e')) e⟩
    have hk : IsSec os o.who (secT t) := by
      cases t with
      | nil =>
        refine ⟨fun q hq hne' => ?_, .inl rfl⟩
        obtain ⟨v, hv, e1, _⟩ := hof q hq
        simp at hv
        rw [hv] at e1; exact absurd e1.symm hne'
      | cons p t =>
        refine ⟨fun q hq hne' => ?_, .inr ⟨p, hin p (by simp), hne p (List.mem_cons_self ..), rfl⟩⟩
        obtain ⟨v, hv, e1, e2⟩ := hof q hq
        have hvm : v.most ≤ p.most := by
          rcases List.mem_cons.1 hv with e' | e'
          · rw [e'] at e1; exact absurd e1.symm hne'
          · rcases List.mem_cons.1 e' with e' | e'
            · rw [e']; exact Int.le_refl _
            · have := (List.pairwise_cons.1 hst.2).1 v e'
              rw [beats_no] at this; omega
        show q.most ≤ p.most
        rcases e2 with e2 | e2
        · rw [e2]; exact hvm
        · rw [beats_iff] at e2; omega
    rw [knock_eq hw hk h1]; rfl
/-! what a sale obeys -/
theorem rungF_mono {rs : List Int} (h : Asc rs) {n m : Int} (hnm : n ≤ m) : rungF n rs 0 ≤ rungF m rs 0 := by
  rcases rungF_spec (n := n) rs 0 h with ⟨e, _⟩ | ⟨a, b, c⟩
  · rw [e]
    rcases rungF_spec (n := m) rs 0 h with ⟨e, _⟩ | ⟨a, _, _⟩
    · rw [e]; exact Int.le_refl _
    · have := (h.pos _ a).1; omega
  · rcases rungF_spec (n := m) rs 0 h with ⟨_, k⟩ | ⟨_, _, k⟩
    · have := k _ a; omega
    · exact k _ a (by omega)
theorem rungF_nn {rs : List Int} (h : Asc rs) (n : Int) : 0 ≤ rungF n rs 0 := by
  rcases rungF_spec (n := n) rs 0 h with ⟨e, _⟩ | ⟨a, _, _⟩
  · rw [e]; exact Int.le_refl _
  · have := (h.pos _ a).1; omega
def maxB (p : BidV → Bool) : List BidV → Int → Int
  | [], m => m
  | b :: l, m => maxB p l (if p b = true then max m b.most else m)
theorem maxB_drop (p : BidV → Bool) (bs : List BidV) (k : Nat) (b : BidV) (m : Int) (h : bs[k]? = some b) : maxB p (bs.drop k) m = maxB p (bs.drop (k + 1)) (if p b = true then max m b.most else m) := by
  obtain ⟨h1, h2⟩ := List.getElem?_eq_some_iff.1 h
  rw [List.drop_eq_getElem_cons h1, h2, maxB]
theorem maxB_spec (p : BidV → Bool) : ∀ (bs : List BidV) (m : Int), m ≤ maxB p bs m ∧ (∀ b ∈ bs, p b = true → b.most ≤ maxB p bs m) ∧ (maxB p bs m = m ∨ ∃ b ∈ bs, p b = true ∧ b.most = maxB p bs m)
  | [], m => ⟨Int.le_refl _, fun _ h => (by cases h), .inl rfl⟩
  | b :: l, m => by
    rw [maxB]
    by_cases hb : p b = true
    · rw [if_pos hb]
      obtain ⟨h1, h2, h3⟩ := maxB_spec p l (max m b.most)
      refine ⟨by omega, fun q hq hw => ?_, ?_⟩
      · rcases List.mem_cons.1 hq with e | e
        · rw [e]; omega
        · exact h2 q e hw
      · rcases h3 with e | ⟨q, hq, x⟩
        · by_cases hm : m ≤ b.most
          · exact .inr ⟨b, List.mem_cons_self .., hb, by omega⟩
          · exact .inl (by omega)
        · exact .inr ⟨q, List.mem_cons_of_mem _ hq, x⟩
    · rw [if_neg hb]
      obtain ⟨h1, h2, h3⟩ := maxB_spec p l m
      refine ⟨h1, fun q hq hw => ?_, h3.imp id fun ⟨q, hq, x⟩ => ⟨q, List.mem_cons_of_mem _ hq, x⟩⟩
      rcases List.mem_cons.1 hq with e | e
      · exact absurd (e ▸ hw) hb
      · exact h2 q e hw
theorem own_rung {rs : List Int} (h : Asc rs) {bs : List BidV} {W : BidV} (hw : IsWin (offs rs bs) W) (h1 : ∀ b ∈ bs, 1 ≤ b.most) : rungF (maxB (fun b => b.who == W.who) bs 0) rs 0 = W.most := by
  obtain ⟨a1, a2, a3⟩ := maxB_spec (fun b => b.who == W.who) bs 0
  obtain ⟨hp, b, hb, e⟩ := mem_offs.1 hw.mem
  have hwho : b.who = W.who := by rw [← e]; rfl
  have hm : rungF b.most rs 0 = W.most := by rw [← e]; rfl
  have h2 := rungF_mono h (a2 b hb (by simp [hwho]))
  rcases a3 with e' | ⟨c, hc, hcw, hcm⟩
  · have := a2 b hb (by simp [hwho]); have := h1 b hb; omega
  · rw [← hcm] at h2 ⊢
    have hco : offer1 rs c ∈ offs rs bs := mem_offs.2 ⟨by unfold offer1; simp only; omega, c, hc, rfl⟩
    have := hw.most hco
    unfold offer1 at this
    simp only at this
    omega
theorem other_rung {rs : List Int} (h : Asc rs) {bs : List BidV} {w s : Int} (hk : IsSec (offs rs bs) w s) (h0 : 0 ≤ s) : rungF (maxB (fun b => !(b.who == w)) bs 0) rs 0 ≤ s := by
  obtain ⟨a1, a2, a3⟩ := maxB_spec (fun b => !(b.who == w)) bs 0
  rcases a3 with e' | ⟨c, hc, hcw, hcm⟩
  · rw [e']
    rcases rungF_spec (n := 0) rs 0 h with ⟨e, _⟩ | ⟨a, b, _⟩
    · omega
    · have := (h.pos _ a).1; omega
  · by_cases hp : 0 < rungF c.most rs 0
    · rw [← hcm]
      exact hk.le (offer1 rs c) (mem_offs.2 ⟨hp, c, hc, rfl⟩) (show c.who ≠ w by simpa using hcw)
    · rw [← hcm]; omega
theorem price_bd {rs : List Int} (h : Asc rs) {start limit second : Int} (h0 : 0 ≤ start) (hl : limit ∈ rs) (hsl : ∀ r ∈ rs, start ≤ r) (hle : second ≤ limit) : start ≤ priceF rs start limit second ∧ second ≤ priceF rs start limit second ∧ priceF rs start limit second ≤ limit := by
  have h1 := hsl _ hl
  have h2 := (h.pos _ hl).1
  unfold priceF
  split
  · omega
  · split
    · omega
    · rcases behF_spec (n := second) rs h with ⟨_, k⟩ | ⟨k1, k2, k3⟩
      · have := k _ hl; omega
      · exact ⟨hsl _ k1, by omega, k3 _ hl (by omega)⟩
end Am
namespace Am

theorem price_mono {rs : List Int} (h : Asc rs) {start a b s t : Int} (h0 : 0 ≤ start) (hb : b ∈ rs) (hsl : ∀ r ∈ rs, start ≤ r) (ht : t = 0 ∨ t ∈ rs) (hs : 0 ≤ s) (hst : s ≤ t) (hab : a ≤ b) (hsa : s ≤ a) (htb : t ≤ b) : priceF rs start a s ≤ priceF rs start b t := by
  obtain ⟨p1, p2, p3⟩ := price_bd h h0 hb hsl htb
  by_cases h1 : s = a
  · have : priceF rs start a s = a := if_pos h1
    omega
  · by_cases h2 : s = 0
    · have : priceF rs start a s = start := by unfold priceF; rw [if_neg h1, if_pos h2]
      omega
    · have e : priceF rs start a s = behF s rs := by unfold priceF; rw [if_neg h1, if_neg h2]
      rw [e]
      by_cases h3 : s = t
      · have : priceF rs start b t = behF s rs := by unfold priceF; rw [if_neg (by omega), if_neg (by omega), h3]
        omega
      · rcases behF_spec (n := s) rs h with ⟨_, k⟩ | ⟨_, _, k3⟩
        · have := k b hb; omega
        · have := k3 t (ht.resolve_left (by omega)) (by omega); omega
theorem knock_of_lead {rs : List Int} {start least : Int} {os : List BidV} {x : LeadV} (h : LeadIs rs start os x) (hq : ∀ q ∈ os, 0 ≤ q.who) (hp : ∀ q ∈ os, 1 ≤ q.most) : knockF rs start least os = if x.who = -1 ∨ least = 0 ∨ x.limit < least then ⟨-1, 0⟩ else ⟨x.who, max least x.price⟩ := by
  rcases h with ⟨e, ex⟩ | ⟨W, hW, a1, a2, a3, a4, a0, a5, a6⟩
  · rw [e, ex]; simp [knockF, winO, lead0]
  · rw [knock_eq hW a4 hp]
    have := hq _ hW.mem
    have hne : ¬ W.who = -1 := by omega
    simp only [a1, a2, a6, hne, false_or]
theorem step_more {rs : List Int} (ha : Asc rs) {start : Int} (h0 : 0 ≤ start) (hsl : ∀ r ∈ rs, start ≤ r) {os : List BidV} {x : LeadV} {o : BidV} (h : LeadIs rs start os x) (hx : x.who ≠ -1) (ho : o.most ∈ rs) (hw : 0 ≤ o.who) (hr : ∀ q ∈ os, q.most ∈ rs) (hq : ∀ q ∈ os, 0 ≤ q.who) : (stepP rs start x o).who ≠ -1 ∧ x.limit ≤ (stepP rs start x o).limit ∧ x.price ≤ (stepP rs start x o).price := by
  have hn := lead_step h (ha.pos _ ho).1 hw (fun q hq' => (ha.pos _ (hr q hq')).1) hq
  rcases hn with ⟨e, _⟩ | ⟨V, hV, n1, n2, n3, n4, n0, n5, n6⟩
  · simp at e
  have hVm : V.most ∈ rs ∧ 0 ≤ V.who := by
    rcases List.mem_append.1 hV.mem with e | e
    · exact ⟨hr _ e, hq _ e⟩
    · simp at e; rw [e]; exact ⟨ho, hw⟩
  have hsr : (stepP rs start x o).second = 0 ∨ (stepP rs start x o).second ∈ rs := n4.at_.imp id fun ⟨q, hq', _, e⟩ => by
    rw [← e]
    rcases List.mem_append.1 hq' with e' | e'
    · exact hr _ e'
    · simp at e'; rw [e']; exact ho
  rcases h with ⟨e, ex⟩ | ⟨W, hW, a1, a2, a3, a4, a0, a5, a6⟩
  · rw [ex] at hx; exact absurd rfl hx
  have hls : x.limit ≤ (stepP rs start x o).limit ∧ x.second ≤ (stepP rs start x o).second := by
    unfold stepP
    split
    · split
      · rename_i hb
        rw [beats_iff] at hb
        simp only at hb ⊢; omega
      · exact ⟨Int.le_refl _, Int.le_refl _⟩
    · split
      · rename_i hb
        rcases hb with hb | hb
        · exact absurd hb hx
        · rw [beats_iff] at hb
          simp only at hb ⊢; omega
      · simp only; omega
  refine ⟨by omega, hls.1, ?_⟩
  rw [a6, n6]
  exact price_mono ha h0 (n2 ▸ hVm.1) hsl hsr a0 hls.2 hls.1 a5 n5
/-- a bid more -/
theorem knock_more {rs : List Int} (ha : Asc rs) {start least : Int} (h0 : 0 ≤ start) (hsl : ∀ r ∈ rs, start ≤ r) {bs : List BidV} {b : BidV} (hb : ∀ c ∈ bs, 0 ≤ c.who ∧ c.who ≤ 99) (hw : 0 ≤ b.who) (hk : (knockF rs start least (offs rs bs)).winner ≠ -1) : (knockF rs start least (offs rs (bs ++ [b]))).winner ≠ -1 ∧ (knockF rs start least (offs rs bs)).price ≤ (knockF rs start least (offs rs (bs ++ [b]))).price := by
  have hl := room_end (rs := rs) (start := start) bs hb
  have hq : ∀ q ∈ offs rs bs, 0 ≤ q.who := fun q hq => (offs_who hb hq).1
  have hp : ∀ q ∈ offs rs bs, 1 ≤ q.most := fun q hq => offs_pos hq
  have hr : ∀ q ∈ offs rs bs, q.most ∈ rs := fun q hq => offs_rung ha hq
  rw [offs_snoc]
  by_cases hbm : 0 < (offer1 rs b).most
  · rw [if_pos hbm]
    have hor : (offer1 rs b).most ∈ rs := by
      rcases rungF_spec (n := b.most) rs 0 ha with ⟨e, _⟩ | ⟨e, _⟩
      · unfold offer1 at hbm; rw [e] at hbm; simp at hbm
      · exact e
    have e1 := knock_of_lead (least := least) hl hq hp
    rw [e1] at hk ⊢
    by_cases hc : (roomE rs start bs).who = -1 ∨ least = 0 ∨ (roomE rs start bs).limit < least
    · rw [if_pos hc] at hk; exact absurd rfl hk
    · rw [if_neg hc] at hk ⊢
      obtain ⟨m1, m2, m3⟩ := step_more ha h0 hsl hl (fun e => hc (.inl e)) hor hw hr hq
      have hn := lead_step hl (by omega : 1 ≤ (offer1 rs b).most) hw hp hq
      have hq' : ∀ q ∈ offs rs bs ++ [offer1 rs b], 0 ≤ q.who := fun q hq'' => by
        rcases List.mem_append.1 hq'' with e | e
        · exact hq _ e
        · simp at e; rw [e]; exact hw
      have hp' : ∀ q ∈ offs rs bs ++ [offer1 rs b], 1 ≤ q.most := fun q hq'' => by
        rcases List.mem_append.1 hq'' with e | e
        · exact hp _ e
        · simp at e; rw [e]; omega
      rw [knock_of_lead (least := least) hn hq' hp', if_neg (by omega)]
      exact ⟨m1, by simp only; omega⟩
  · rw [if_neg hbm]; exact ⟨hk, Int.le_refl _⟩
/-- a greater reserve -/
theorem knock_dear {rs : List Int} {start l m : Int} {os : List BidV} (hk : (knockF rs start l os).winner ≠ -1) (hm : m = 0 ∨ l ≤ m) : knockF rs start m os = ⟨-1, 0⟩ ∨ ((knockF rs start m os).winner = (knockF rs start l os).winner ∧ (knockF rs start l os).price ≤ (knockF rs start m os).price) := by
  unfold knockF at *
  generalize winO os = w at *
  cases w with
  | none => exact .inl rfl
  | some W =>
    simp only at hk ⊢
    by_cases h1 : l = 0 ∨ W.most < l
    · rw [if_pos h1] at hk; exact absurd rfl hk
    · rw [if_neg h1]
      by_cases h2 : m = 0 ∨ W.most < m
      · rw [if_pos h2]; exact .inl rfl
      · rw [if_neg h2]; right; exact ⟨rfl, by simp only; omega⟩
theorem knock_none {rs : List Int} {start l : Int} {os : List BidV} (hq : ∀ q ∈ os, 0 ≤ q.who) (h : (knockF rs start l os).winner = -1) : (knockF rs start l os).price = 0 := by
  rcases winO_spec os with ⟨e, _⟩ | ⟨W, e, hW⟩
  · unfold knockF; rw [e]
  · have := hq _ hW.mem
    unfold knockF at h ⊢
    rw [e] at h ⊢
    simp only at h ⊢
    by_cases h1 : l = 0 ∨ W.most < l
    · rw [if_pos h1]
    · rw [if_neg h1] at h; simp only at h; omega
theorem knock_sold {rs : List Int} {start l : Int} {os : List BidV} (hp : ∀ q ∈ os, 1 ≤ q.most) (hk : (knockF rs start l os).winner ≠ -1) : ∃ W s, IsWin os W ∧ IsSec os W.who s ∧ 0 ≤ s ∧ s ≤ W.most ∧ l ≠ 0 ∧ l ≤ W.most ∧ knockF rs start l os = ⟨W.who, max l (priceF rs start W.most s)⟩ := by
  rcases winO_spec os with ⟨e, _⟩ | ⟨W, e, hW⟩
  · unfold knockF at hk; rw [e] at hk; exact absurd rfl hk
  · obtain ⟨h1, h2⟩ := secO_spec W.who os hp
    have h3 : secO W.who os ≤ W.most := by
      rcases h1.at_ with e' | ⟨o, ho, _, e'⟩
      · have := hp _ hW.mem; omega
      · rw [← e']; exact hW.most ho
    have e' := knock_eq (rs := rs) (start := start) (least := l) hW h1 hp
    by_cases hc : l = 0 ∨ W.most < l
    · rw [e', if_pos hc] at hk; exact absurd rfl hk
    · rw [if_neg hc] at e'
      exact ⟨W, _, hW, h1, h2, h3, fun e => hc (.inl e), by omega, e'⟩
/-- the rung of the reserve, as the law finds it -/
def floorF (rs : List Int) (start reserve : Int) : Int × Bool :=
  if reserve ≤ start then (start, true) else
  let n := rungF reserve rs 0
  if n = 0 then (0, false) else if n < reserve then (behF n rs, !(behF n rs == 0)) else (n, true)
theorem floor_eq {lad : List RiseV} (h : LadOk lad) {start reserve : Int} (hs : 1 ≤ start) (hs2 : start ≤ 100000) : floorF (rgL lad start) start reserve = (behF (reserve - 1) (rgL lad start), !(behF (reserve - 1) (rgL lad start) == 0)) := by
  have ha := rgL_asc h hs
  have hst : start ∈ rgL lad start := by rw [rgL_step h (by omega), if_pos hs2]; exact List.mem_cons_self ..
  unfold floorF
  by_cases h1 : reserve ≤ start
  · rw [if_pos h1, rgL_step h (by omega), if_pos hs2, behF, if_pos (by omega)]
    have : (start == 0) = false := by simp; omega
    rw [this]; rfl
  · rw [if_neg h1]
    rcases rungF_spec (n := reserve) (rgL lad start) 0 ha with ⟨_, k⟩ | ⟨k1, k2, k3⟩
    · have := k _ hst; omega
    · have hp := (ha.pos _ k1).1
      simp only
      rw [if_neg (by omega)]
      by_cases h2 : rungF reserve (rgL lad start) 0 < reserve
      · rw [if_pos h2]
        have e : behF (rungF reserve (rgL lad start) 0) (rgL lad start) = behF (reserve - 1) (rgL lad start) := by
          rcases behF_spec (n := rungF reserve (rgL lad start) 0) _ ha with ⟨e, a⟩ | ⟨a1, a2, a3⟩
          · rcases behF_spec (n := reserve - 1) _ ha with ⟨e', b⟩ | ⟨b1, b2, b3⟩
            · rw [e, e']
            · have := a _ b1; omega
          · have hgt : reserve - 1 < behF (rungF reserve (rgL lad start) 0) (rgL lad start) := by
              by_cases hh : behF (rungF reserve (rgL lad start) 0) (rgL lad start) ≤ reserve
              · have := k3 _ a1 hh; omega
              · omega
            rcases behF_spec (n := reserve - 1) _ ha with ⟨e', b⟩ | ⟨b1, b2, b3⟩
            · have := b _ a1; omega
            · have := a3 _ b1 (by omega); have := b3 _ a1 hgt; omega
        rw [e]
      · rw [if_neg h2]
        have hrr : rungF reserve (rgL lad start) 0 = reserve := by omega
        have e : behF (reserve - 1) (rgL lad start) = reserve := by
          rcases behF_spec (n := reserve - 1) _ ha with ⟨_, b⟩ | ⟨b1, b2, b3⟩
          · have := b _ k1; omega
          · have := b3 _ k1 (by omega); omega
        rw [e, hrr]
        have : (reserve == 0) = false := by simp; omega
        rw [this]; rfl
theorem rgL_start {lad : List RiseV} (h : LadOk lad) {start : Int} (hs : 1 ≤ start) : ∀ r ∈ rgL lad start, start ≤ r := (rgs_asc h _ start hs).2
end Am
namespace Am
/-- a sum over the first n numbers -/
def sumN : Nat → (Nat → Int) → Int
  | 0, _ => 0
  | n + 1, f => sumN n f + f n
theorem sumN_congr {n : Nat} {f g : Nat → Int} (h : ∀ i, i < n → f i = g i) : sumN n f = sumN n g := by
  induction n with
  | zero => rfl
  | succ n ih => rw [sumN, sumN, ih (fun i hi => h i (by omega)), h n (by omega)]
theorem sumN_add (n : Nat) (f g : Nat → Int) : sumN n (fun i => f i + g i) = sumN n f + sumN n g := by
  induction n with
  | zero => rfl
  | succ n ih => rw [sumN, sumN, sumN, ih]; omega
theorem sumN_le {n : Nat} {f g : Nat → Int} (h : ∀ i, i < n → f i ≤ g i) : sumN n f ≤ sumN n g := by
  induction n with
  | zero => exact Int.le_refl _
  | succ n ih => rw [sumN, sumN]; have := ih (fun i hi => h i (by omega)); have := h n (by omega); omega
theorem sumN_one {n k : Nat} (f : Nat → Int) (hk : k < n) (h : ∀ i, i < n → i ≠ k → f i = 0) : sumN n f = f k := by
  induction n with
  | zero => omega
  | succ n ih =>
    rw [sumN]
    by_cases e : n = k
    · subst e
      rw [sumN_congr (g := fun _ => 0) (fun i hi => h i (by omega) (by omega))]
      have : ∀ m, sumN m (fun _ => 0) = 0 := by intro m; induction m with
        | zero => rfl
        | succ m ih => rw [sumN, ih]; rfl
      rw [this]; omega
    · rw [ih (by omega) (fun i hi hne => h i (by omega) hne), h n (by omega) e]; omega
theorem sumN_zero (n : Nat) : sumN n (fun _ => 0) = 0 := by
  induction n with
  | zero => rfl
  | succ n ih => rw [sumN, ih]; rfl
/-- one place is another -/
theorem sumN_upd {n k : Nat} (f g : Nat → Int) (hk : k < n) (h : ∀ i, i < n → i ≠ k → f i = g i) : sumN n f = sumN n g - g k + f k := by
  have := sumN_add n g (fun i => f i - g i)
  rw [sumN_one (fun i => f i - g i) hk (fun i hi hne => by have := h i hi hne; omega)] at this
  rw [sumN_congr (f := f) (g := fun i => g i + (f i - g i)) (fun i _ => by omega), this]; omega

/-- who gets which lot: of n bidders, of m lots -/
structure Val (n m : Nat) (σ : Nat → Option Nat) : Prop where
  lot : ∀ i j, i < n → σ i = some j → j < m
  inj : ∀ i i' j, i < n → i' < n → σ i = some j → σ i' = some j → i = i'
def gt (w : Nat → Nat → Int) (i : Nat) : Option Nat → Int
  | none => 0
  | some j => w i j
def wt (n : Nat) (w : Nat → Nat → Int) (σ : Nat → Option Nat) : Int := sumN n (fun i => gt w i (σ i))
/-- a lot more, that is as lot k -/
def dup (m k : Nat) (w : Nat → Nat → Int) : Nat → Nat → Int := fun i j => w i (if j = m then k else j)
structure IsMax (n m : Nat) (w : Nat → Nat → Int) (M : Int) : Prop where
  at_ : ∃ σ, Val n m σ ∧ wt n w σ = M
  le : ∀ σ, Val n m σ → wt n w σ ≤ M
theorem IsMax.uniq {n m : Nat} {w : Nat → Nat → Int} {M M' : Int} (h : IsMax n m w M) (h' : IsMax n m w M') : M = M' := by
  obtain ⟨σ, h1, h2⟩ := h.at_
  obtain ⟨σ', h3, h4⟩ := h'.at_
  have := h.le σ' h3
  have := h'.le σ h1
  omega

/-! ### Exchange -/
inductive Dx (n m : Nat) (σ τ : Nat → Option Nat) : Nat → Prop
  | start {i : Nat} : i < n → τ i = some m → Dx n m σ τ i
  | step {i j b : Nat} : Dx n m σ τ i → σ i = some b → j < n → τ j = some b → Dx n m σ τ j
theorem Dx.lt {n m : Nat} {σ τ : Nat → Option Nat} {i : Nat} (h : Dx n m σ τ i) : i < n := by cases h <;> assumption
theorem Dx.lot {n m : Nat} {σ τ : Nat → Option Nat} {i b : Nat} (h : Dx n m σ τ i) (hb : τ i = some b) : b = m ∨ ∃ j, Dx n m σ τ j ∧ σ j = some b := by
  cases h with
  | start _ h => rw [h] at hb; injection hb with hb; exact .inl hb.symm
  | step h1 h2 _ h3 => rw [h3] at hb; injection hb with hb; subst hb; exact .inr ⟨_, h1, h2⟩
open Classical in
noncomputable def xs (n m : Nat) (σ τ : Nat → Option Nat) (i : Nat) : Option Nat := if Dx n m σ τ i then τ i else σ i
open Classical in
noncomputable def xt (n m : Nat) (σ τ : Nat → Option Nat) (i : Nat) : Option Nat := if Dx n m σ τ i then σ i else τ i
section
variable {n m : Nat} {σ τ : Nat → Option Nat}
theorem xs_y {i : Nat} (h : Dx n m σ τ i) : xs n m σ τ i = τ i := if_pos h
theorem xs_n {i : Nat} (h : ¬ Dx n m σ τ i) : xs n m σ τ i = σ i := if_neg h
theorem xt_y {i : Nat} (h : Dx n m σ τ i) : xt n m σ τ i = σ i := if_pos h
theorem xt_n {i : Nat} (h : ¬ Dx n m σ τ i) : xt n m σ τ i = τ i := if_neg h
theorem xs_val (hs : Val n m σ) (ht : Val n (m + 1) τ) : Val n (m + 1) (xs n m σ τ) := by
  have mix : ∀ i i' j, i < n → i' < n → Dx n m σ τ i → ¬ Dx n m σ τ i' → τ i = some j → σ i' = some j → False := by
    intro i i' j hi hi' d d' h h'
    rcases d.lot h with e | ⟨k, dk, hk⟩
    · subst e; have := hs.lot i' _ hi' h'; omega
    · have := hs.inj k i' j dk.lt hi' hk h'; subst this; exact d' dk
  refine ⟨fun i j hi h => ?_, fun i i' j hi hi' h h' => ?_⟩
  · by_cases d : Dx n m σ τ i
    · rw [xs_y d] at h; exact ht.lot i j hi h
    · rw [xs_n d] at h; have := hs.lot i j hi h; omega
  · by_cases d : Dx n m σ τ i <;> by_cases d' : Dx n m σ τ i'
    · rw [xs_y d] at h; rw [xs_y d'] at h'; exact ht.inj i i' j hi hi' h h'
    · rw [xs_y d] at h; rw [xs_n d'] at h'; exact (mix i i' j hi hi' d d' h h').elim
    · rw [xs_n d] at h; rw [xs_y d'] at h'; exact (mix i' i j hi' hi d' d h' h).elim
    · rw [xs_n d] at h; rw [xs_n d'] at h'; exact hs.inj i i' j hi hi' h h'
theorem xt_val (hs : Val n m σ) (ht : Val n (m + 1) τ) : Val n m (xt n m σ τ) := by
  refine ⟨fun i j hi h => ?_, fun i i' j hi hi' h h' => ?_⟩
  · by_cases d : Dx n m σ τ i
    · rw [xt_y d] at h; exact hs.lot i j hi h
    · rw [xt_n d] at h
      have := ht.lot i j hi h
      by_cases e : j = m
      · subst e; exact absurd (.start hi h) d
      · omega
  · by_cases d : Dx n m σ τ i <;> by_cases d' : Dx n m σ τ i'
    · rw [xt_y d] at h; rw [xt_y d'] at h'; exact hs.inj i i' j hi hi' h h'
    · rw [xt_y d] at h; rw [xt_n d'] at h'; exact absurd (.step d h hi' h') d'
    · rw [xt_n d] at h; rw [xt_y d'] at h'; exact absurd (.step d' h' hi h) d
    · rw [xt_n d] at h; rw [xt_n d'] at h'; exact ht.inj i i' j hi hi' h h'
theorem xs_img {i b : Nat} (hi : i < n) (hb : b < m) (h : xs n m σ τ i = some b) : ∃ j, j < n ∧ σ j = some b := by
  by_cases d : Dx n m σ τ i
  · rw [xs_y d] at h
    rcases d.lot h with e | ⟨k, dk, hk⟩
    · omega
    · exact ⟨k, dk.lt, hk⟩
  · rw [xs_n d] at h; exact ⟨i, hi, h⟩
theorem Dx.some {i : Nat} (h : Dx n m σ τ i) : τ i ≠ none := by cases h <;> simp [*]
theorem x_sum (w w' : Nat → Nat → Int) (hs : Val n m σ) (ht : Val n (m + 1) τ) (hw : ∀ i j, j < m → w' i j = w i j) : wt n w' (xs n m σ τ) + wt n w (xt n m σ τ) = wt n w σ + wt n w' τ := by
  unfold wt
  rw [← sumN_add, ← sumN_add]
  refine sumN_congr fun i hi => ?_
  have hv := xt_val hs ht
  by_cases d : Dx n m σ τ i
  · rw [xs_y d, xt_y d]; exact Int.add_comm _ _
  · rw [xs_n d, xt_n d]
    have e1 : gt w' i (σ i) = gt w i (σ i) := by
      cases h : σ i with
      | none => rfl
      | some j => exact hw i j (hs.lot i j hi h)
    have e2 : gt w i (τ i) = gt w' i (τ i) := by
      cases h : τ i with
      | none => rfl
      | some j =>
        have := hv.lot i j hi (by rw [xt_n d]; exact h)
        exact (hw i j this).symm
    rw [e1, e2]
end
theorem dup_lt {m k : Nat} {w : Nat → Nat → Int} (i j : Nat) (hj : j < m) : dup m k w i j = w i j := by
  unfold dup; rw [if_neg (by omega)]

/-! ### Lots that are renamed -/
/-- the copy of lot k is lot k -/
def undup (m k : Nat) (σ : Nat → Option Nat) : Nat → Option Nat := fun i => (σ i).map (fun j => if j = m then k else j)
theorem undup_wt (n m k : Nat) (w : Nat → Nat → Int) (σ : Nat → Option Nat) : wt n w (undup m k σ) = wt n (dup m k w) σ := by
  unfold wt
  refine sumN_congr fun i _ => ?_
  unfold undup
  cases σ i <;> rfl
theorem undup_val {n m k : Nat} {σ : Nat → Option Nat} (h : Val n (m + 1) σ) (hk : k < m) (hno : ∀ i, i < n → σ i ≠ some k) : Val n m (undup m k σ) := by
  refine ⟨fun i j hi e => ?_, fun i i' j hi hi' e e' => ?_⟩
  · unfold undup at e
    obtain ⟨b, hb, e⟩ := Option.map_eq_some_iff.1 e
    have := h.lot i b hi hb
    split at e <;> omega
  · unfold undup at e e'
    obtain ⟨b, hb, e⟩ := Option.map_eq_some_iff.1 e
    obtain ⟨b', hb', e'⟩ := Option.map_eq_some_iff.1 e'
    have hbk : b ≠ k := fun e => hno i hi (e ▸ hb)
    have hbk' : b' ≠ k := fun e => hno i' hi' (e ▸ hb')
    have : b = b' := by split at e <;> split at e' <;> omega
    subst this
    exact h.inj i i' b hi hi' hb hb'
/-- lot k that nobody gets in a best award: another one like it is worth nothing more -/
theorem unsold {n m k : Nat} {w : Nat → Nat → Int} {M Mk : Int} {σ : Nat → Option Nat} (hs : Val n m σ) (hM : IsMax n m w M) (hMk : IsMax n (m + 1) (dup m k w) Mk) (ho : wt n w σ = M) (hk : k < m) (hno : ∀ i, i < n → σ i ≠ some k) : Mk ≤ M := by
  obtain ⟨τ, ht, hτ⟩ := hMk.at_
  have e := x_sum w (dup m k w) hs ht (fun i j hj => dup_lt i j hj)
  have h1 := hM.le _ (xt_val hs ht)
  have h2 := hM.le _ (undup_val (k := k) (xs_val hs ht) hk (fun i hi e => by
    obtain ⟨j, hj, h⟩ := xs_img hi hk e
    exact hno j hj h))
  rw [undup_wt] at h2
  omega

/-! ### What a bidder adds -/
inductive Rx (n s i : Nat) (σ τ : Nat → Option Nat) : Nat → Prop
  | start {j : Nat} : j < n → τ j = some s → Rx n s i σ τ j
  | step {j j' b : Nat} : Rx n s i σ τ j → j ≠ i → σ j = some b → j' < n → τ j' = some b → Rx n s i σ τ j'
theorem Rx.lt {n s i : Nat} {σ τ : Nat → Option Nat} {j : Nat} (h : Rx n s i σ τ j) : j < n := by cases h <;> assumption
theorem dx_rx {n m i : Nat} {σ τ : Nat → Option Nat} {j : Nat} (h : Dx n m σ τ j) : Rx n m i σ τ j ∨ Rx n m i σ τ i := by
  induction h with
  | start h1 h2 => exact .inl (.start h1 h2)
  | @step a b c _ h1 h2 h3 ih =>
    rcases ih with ih | ih
    · by_cases e : a = i
      · subst e; exact .inr ih
      · exact .inl (.step ih e h1 h2 h3)
    · exact .inr ih
/-- lots a and m change their names -/
def swp (a m : Nat) (τ : Nat → Option Nat) : Nat → Option Nat := fun i => (τ i).map (fun j => if j = m then a else if j = a then m else j)
theorem swp_val {n m a : Nat} {τ : Nat → Option Nat} (h : Val n (m + 1) τ) (ha : a < m) : Val n (m + 1) (swp a m τ) := by
  refine ⟨fun i j hi e => ?_, fun i i' j hi hi' e e' => ?_⟩
  · unfold swp at e
    obtain ⟨b, hb, e⟩ := Option.map_eq_some_iff.1 e
    have := h.lot i b hi hb
    split at e
    · omega
    · split at e <;> omega
  · unfold swp at e e'
    obtain ⟨b, hb, e⟩ := Option.map_eq_some_iff.1 e
    obtain ⟨b', hb', e'⟩ := Option.map_eq_some_iff.1 e'
    have : b = b' := by
      split at e <;> split at e'
      · omega
      · split at e' <;> omega
      · split at e <;> omega
      · split at e <;> split at e' <;> omega
    subst this
    exact h.inj i i' b hi hi' hb hb'
theorem swp_wt (n m a : Nat) (w : Nat → Nat → Int) (τ : Nat → Option Nat) : wt n (dup m a w) (swp a m τ) = wt n (dup m a w) τ := by
  unfold wt
  refine sumN_congr fun i _ => ?_
  unfold swp
  cases τ i with
  | none => rfl
  | some j =>
    show dup m a w i (if j = m then a else if j = a then m else j) = dup m a w i j
    unfold dup
    congr 1
    by_cases h1 : j = m
    · rw [if_pos h1, if_pos h1]
      by_cases e : a = m
      · rw [if_pos e]
      · rw [if_neg e]
    · rw [if_neg h1, if_neg h1]
      by_cases h2 : j = a
      · rw [if_pos h2, if_pos rfl, h2]
      · rw [if_neg h2, if_neg h1]
theorem swp_m {a m : Nat} {τ : Nat → Option Nat} {j : Nat} (ha : a ≠ m) (h : swp a m τ j = some m) : τ j = some a := by
  unfold swp at h
  obtain ⟨b, hb, e⟩ := Option.map_eq_some_iff.1 h
  split at e
  · omega
  · split at e
    · rename_i h2; rw [hb, h2]
    · omega
theorem swp_o {a m : Nat} {τ : Nat → Option Nat} {j b : Nat} (h1 : b ≠ a) (h2 : b ≠ m) (h : swp a m τ j = some b) : τ j = some b := by
  unfold swp at h
  obtain ⟨c, hc, e⟩ := Option.map_eq_some_iff.1 h
  split at e
  · omega
  · split at e
    · omega
    · rw [hc, e]
theorem rx_swp {n m a i : Nat} {σ τ : Nat → Option Nat} (hs : Val n m σ) (ha : a < m) (hi : i < n) (hia : σ i = some a) {j : Nat} (h : Rx n m i σ (swp a m τ) j) : Rx n a i σ τ j := by
  induction h with
  | start h1 h2 => exact .start h1 (swp_m (by omega) h2)
  | @step j j' b h0 h1 h2 h3 h4 ih =>
    have hb := hs.lot j b h0.lt h2
    have hba : b ≠ a := fun e => h1 (hs.inj j i a h0.lt hi (e ▸ h2) hia)
    exact .step ih h1 h2 h3 (swp_o hba (by omega) h4)
theorem rx_no {n m a i : Nat} {σ τ : Nat → Option Nat} (hs : Val n m σ) (ha : a < m) (hi : i < n) (hia : σ i = some a) {j : Nat} (h : Rx n m i σ τ j) : ¬ Rx n a i σ τ j := by
  induction h with
  | @start j h1 h2 =>
    intro h
    cases h with
    | start _ h3 => rw [h2] at h3; injection h3 with h3; omega
    | step h3 _ h4 _ h5 =>
      rw [h2] at h5; injection h5 with h5
      have := hs.lot _ _ h3.lt h4; omega
  | @step j j' b h0 h1 h2 h3 h4 ih =>
    intro h
    cases h with
    | start _ h5 =>
      rw [h4] at h5; injection h5 with h5
      exact h1 (hs.inj j i a h0.lt hi (h5 ▸ h2) hia)
    | step h5 _ h6 _ h7 =>
      rw [h4] at h7; injection h7 with h7
      subst h7
      have := hs.inj _ _ _ h5.lt h0.lt h6 h2
      subst this
      exact ih h5
/-- the most that others can get without bidder i -/
structure IsMaxO (n m i : Nat) (w : Nat → Nat → Int) (M : Int) : Prop where
  at_ : ∃ σ, Val n m σ ∧ σ i = none ∧ wt n w σ = M
  le : ∀ σ, Val n m σ → σ i = none → wt n w σ ≤ M
def drp (i : Nat) (σ : Nat → Option Nat) : Nat → Option Nat := fun k => if k = i then none else σ k
theorem drp_val {n m i : Nat} {σ : Nat → Option Nat} (h : Val n m σ) : Val n m (drp i σ) := by
  refine ⟨fun k j hk e => ?_, fun k k' j hk hk' e e' => ?_⟩
  · unfold drp at e; split at e
    · cases e
    · exact h.lot k j hk e
  · unfold drp at e e'
    split at e
    · cases e
    · split at e'
      · cases e'
      · exact h.inj k k' j hk hk' e e'
theorem drp_wt {n i : Nat} (w : Nat → Nat → Int) (σ : Nat → Option Nat) (hi : i < n) : wt n w (drp i σ) = wt n w σ - gt w i (σ i) := by
  unfold wt
  rw [sumN_upd (fun k => gt w k (drp i σ k)) (fun k => gt w k (σ k)) hi (fun k _ hne => by simp only [drp, if_neg hne])]
  simp only [drp, if_pos rfl]; simp [gt]
/-- another lot like the one that a bidder gets is worth as much as the bidder's being away, and the bidder's value -/
theorem vick {n m a i : Nat} {w : Nat → Nat → Int} {M Ma Mi : Int} {σ : Nat → Option Nat} (hs : Val n m σ) (hM : IsMax n m w M) (hMa : IsMax n (m + 1) (dup m a w) Ma) (hMi : IsMaxO n m i w Mi) (ho : wt n w σ = M) (hi : i < n) (hia : σ i = some a) : Ma = Mi + w i a := by
  have ha := hs.lot i a hi hia
  obtain ⟨τ, ht, hτ⟩ := hMa.at_
  have up : Mi + w i a ≤ Ma := by
    obtain ⟨ρ, h1, h2, h3⟩ := hMi.at_
    have hv : Val n (m + 1) (fun k => if k = i then some m else ρ k) := by
      refine ⟨fun k j hk e => ?_, fun k k' j hk hk' e e' => ?_⟩
      · split at e
        · injection e with e; omega
        · have := h1.lot k j hk e; omega
      · skip
        split at e <;> split at e'
        · omega
        · injection e with e; subst e; have := h1.lot k' _ hk' e'; omega
        · injection e' with e'; subst e'; have := h1.lot k _ hk e; omega
        · exact h1.inj k k' j hk hk' e e'
    have h4 := hMa.le _ hv
    have h5 : wt n (dup m a w) (fun k => if k = i then some m else ρ k) = wt n w ρ - 0 + w i a := by
      unfold wt
      rw [sumN_upd _ (fun k => gt w k (ρ k)) hi (fun k hk hne => by
        simp only [if_neg hne]
        cases h : ρ k with
        | none => rfl
        | some j => exact dup_lt k j (h1.lot k j hk h))]
      simp only [if_pos rfl, h2]; simp [gt, dup]
    omega
  have one : ∀ τ, Val n (m + 1) τ → wt n (dup m a w) τ = Ma → ¬ Dx n m σ τ i → Ma ≤ Mi + w i a := by
    intro τ ht hτ hd
    have e := x_sum w (dup m a w) hs ht (fun i j hj => dup_lt i j hj)
    have h1 := hM.le _ (xt_val hs ht)
    have hv := xs_val hs ht
    have hxi : xs n m σ τ i = some a := by rw [xs_n hd]; exact hia
    have hd2 := drp_wt (dup m a w) (xs n m σ τ) hi
    rw [hxi] at hd2
    have h2 := hMi.le (undup m a (drp i (xs n m σ τ))) (undup_val (drp_val hv) ha (fun k hk e => by
      unfold drp at e
      split at e
      · cases e
      · rename_i hne; exact hne (hv.inj k i a hk hi e hxi))) (by simp [undup, drp])
    rw [undup_wt, hd2] at h2
    have h3 : gt (dup m a w) i (some a) = w i a := dup_lt i a ha
    omega
  refine Int.le_antisymm ?_ up
  by_cases d : Dx n m σ τ i
  · refine one (swp a m τ) (swp_val ht ha) (by rw [swp_wt]; exact hτ) (fun d' => ?_)
    have r1 : Rx n m i σ τ i := (dx_rx d).elim id id
    have r2 : Rx n m i σ (swp a m τ) i := (dx_rx d').elim id id
    exact rx_no hs ha hi hia r1 (rx_swp hs ha hi hia r2)
  · exact one τ ht hτ d
/-- with a bidder more, or one lot's worth more, another lot like k is worth no less -/
theorem more_bidder {n m k : Nat} {w : Nat → Nat → Int} {M Mk N Nk : Int} (hM : IsMax n m w M) (hMk : IsMax n (m + 1) (dup m k w) Mk) (hN : IsMax (n + 1) m w N) (hNk : IsMax (n + 1) (m + 1) (dup m k w) Nk) : Mk - M ≤ Nk - N := by
  obtain ⟨τ, ht, hτ⟩ := hMk.at_
  obtain ⟨σ, hs, hσ⟩ := hN.at_
  have ext : ∀ {m' : Nat} {w' : Nat → Nat → Int} {ρ : Nat → Option Nat}, Val n m' ρ → Val (n + 1) m' (drp n ρ) ∧ wt (n + 1) w' (drp n ρ) = wt n w' ρ := by
    intro m' w' ρ h
    have hlt : ∀ k j, drp n ρ k = some j → k ≠ n ∧ ρ k = some j := by
      intro k j e; unfold drp at e; split at e
      · cases e
      · rename_i hne; exact ⟨hne, e⟩
    refine ⟨⟨fun k j hk e => h.lot k j (by have := (hlt k j e).1; omega) (hlt k j e).2, fun k k' j hk hk' e e' => h.inj k k' j (by have := (hlt k j e).1; omega) (by have := (hlt k' j e').1; omega) (hlt k j e).2 (hlt k' j e').2⟩, ?_⟩
    unfold wt
    rw [sumN]
    have : gt w' n (drp n ρ n) = 0 := by simp [drp, gt]
    rw [this, Int.add_zero]
    exact sumN_congr fun i hi => by simp only [drp]; rw [if_neg (by omega)]
  have et := ext (w' := dup m k w) ht
  have e := x_sum w (dup m k w) hs et.1 (fun i j hj => dup_lt i j hj)
  have h1 := hNk.le _ (xs_val hs et.1)
  have hxn : xt (n + 1) m σ (drp n τ) n = none := by
    have : ¬ Dx (n + 1) m σ (drp n τ) n := fun d => d.some (by simp [drp])
    rw [xt_n this]; simp [drp]
  have hv := xt_val hs et.1
  have h2 := hM.le (xt (n + 1) m σ (drp n τ)) ⟨fun i j hi => hv.lot i j (by omega), fun i i' j hi hi' => hv.inj i i' j (by omega) (by omega)⟩
  have h3 : wt (n + 1) w (xt (n + 1) m σ (drp n τ)) = wt n w (xt (n + 1) m σ (drp n τ)) := by
    unfold wt; rw [sumN, hxn]; simp [gt]
  rw [et.2] at e
  omega

/-! ### Prices -/
/-- an award (who gets what, at so much above the reserve of each lot) that is fair -/
structure FairA (n m : Nat) (w : Nat → Nat → Int) (σ : Nat → Option Nat) (q : Nat → Int) : Prop where
  val : Val n m σ
  nn : ∀ j, j < m → 0 ≤ q j
  un : ∀ j, j < m → (∀ i, i < n → σ i ≠ some j) → q j = 0
  ir : ∀ i j, i < n → σ i = some j → q j ≤ w i j
  ef : ∀ i j, i < n → j < m → w i j - q j ≤ gt (fun i j => w i j - q j) i (σ i)
/-- what is paid above the reserves, summed by lots or by bidders -/
theorem sum_img {n m : Nat} {σ : Nat → Option Nat} (q : Nat → Int) (h : Val n m σ) (h0 : ∀ j, j < m → 0 ≤ q j) : sumN n (fun i => gt (fun _ j => q j) i (σ i)) ≤ sumN m q := by
  induction n generalizing q with
  | zero =>
    rw [sumN]
    have := sumN_le (n := m) (f := fun _ => 0) (g := q) h0
    rw [sumN_zero] at this; exact this
  | succ n ih =>
    rw [sumN]
    have hv : Val n m σ := ⟨fun i j hi => h.lot i j (by omega), fun i i' j hi hi' => h.inj i i' j (by omega) (by omega)⟩
    cases hn : σ n with
    | none => have := ih q hv h0; show _ + (0 : Int) ≤ _; omega
    | some j =>
      have hj := h.lot n j (by omega) hn
      have := ih (fun k => if k = j then 0 else q k) hv (fun k hk => by split; omega; exact h0 k hk)
      rw [sumN_upd (fun k => if k = j then 0 else q k) q hj (fun k _ hne => by simp only [if_neg hne])] at this
      rw [if_pos rfl] at this
      have e : sumN n (fun i => gt (fun _ k => if k = j then 0 else q k) i (σ i)) = sumN n (fun i => gt (fun _ k => q k) i (σ i)) := sumN_congr fun i hi => by
        cases hi' : σ i with
        | none => rfl
        | some k =>
          show (if k = j then 0 else q k) = q k
          rw [if_neg]
          rintro rfl
          have := h.inj i n k (by omega) (by omega) hi' hn
          omega
      rw [e] at this
      show _ + q j ≤ _
      omega
theorem sum_img_eq {n m : Nat} {σ : Nat → Option Nat} (q : Nat → Int) (h : Val n m σ) (h0 : ∀ j, j < m → (∀ i, i < n → σ i ≠ some j) → q j = 0) : sumN n (fun i => gt (fun _ j => q j) i (σ i)) = sumN m q := by
  induction n generalizing q with
  | zero =>
    rw [sumN, sumN_congr (g := fun _ => 0) (fun j hj => h0 j hj (fun i hi => absurd hi (Nat.not_lt_zero i))), sumN_zero]
  | succ n ih =>
    rw [sumN]
    have hv : Val n m σ := ⟨fun i j hi => h.lot i j (by omega), fun i i' j hi hi' => h.inj i i' j (by omega) (by omega)⟩
    cases hn : σ n with
    | none =>
      have := ih q hv (fun j hj hno => h0 j hj (fun i hi e => by
        by_cases hin : i = n
        · rw [hin, hn] at e; cases e
        · exact hno i (by omega) e))
      show _ + (0 : Int) = _; omega
    | some j =>
      have hj := h.lot n j (by omega) hn
      have := ih (fun k => if k = j then 0 else q k) hv (fun k hk hno => by
        split
        · rfl
        · rename_i hne
          exact h0 k hk (fun i hi e => by
            by_cases hin : i = n
            · rw [hin, hn] at e; injection e with e; exact hne e.symm
            · exact hno i (by omega) e))
      rw [sumN_upd (fun k => if k = j then 0 else q k) q hj (fun k _ hne => by simp only [if_neg hne])] at this
      rw [if_pos rfl] at this
      have e : sumN n (fun i => gt (fun _ k => if k = j then 0 else q k) i (σ i)) = sumN n (fun i => gt (fun _ k => q k) i (σ i)) := sumN_congr fun i hi => by
        cases hi' : σ i with
        | none => rfl
        | some k =>
          show (if k = j then 0 else q k) = q k
          rw [if_neg]
          rintro rfl
          have := h.inj i n k (by omega) (by omega) hi' hn
          omega
      rw [e] at this
      show _ + q j = _
      omega
theorem wt_split {n : Nat} {w : Nat → Nat → Int} {q : Nat → Int} {σ : Nat → Option Nat} : wt n w σ = sumN n (fun i => gt (fun i j => w i j - q j) i (σ i)) + sumN n (fun i => gt (fun _ j => q j) i (σ i)) := by
  unfold wt
  rw [← sumN_add]
  refine sumN_congr fun i _ => ?_
  cases σ i with
  | none => rfl
  | some j => show w i j = w i j - q j + q j; omega
theorem FairA.gain {n m : Nat} {w : Nat → Nat → Int} {σ : Nat → Option Nat} {q : Nat → Int} (h : FairA n m w σ q) {i : Nat} (hi : i < n) : 0 ≤ gt (fun i j => w i j - q j) i (σ i) := by
  cases e : σ i with
  | none => exact Int.le_refl _
  | some j => have := h.ir i j hi e; show 0 ≤ w i j - q j; omega
/-- the worth of a fair award is the sum of all gains and prices -/
theorem FairA.sum {n m : Nat} {w : Nat → Nat → Int} {σ : Nat → Option Nat} {q : Nat → Int} (h : FairA n m w σ q) : wt n w σ = sumN n (fun i => gt (fun i j => w i j - q j) i (σ i)) + sumN m q := by
  rw [wt_split (q := q), sum_img_eq q h.val h.un]
theorem FairA.bound {n m : Nat} {w : Nat → Nat → Int} {σ : Nat → Option Nat} {q : Nat → Int} (h : FairA n m w σ q) {τ : Nat → Option Nat} {m' : Nat} {q' : Nat → Int} {w' : Nat → Nat → Int} (ht : Val n m' τ) (hq : ∀ j, j < m' → 0 ≤ q' j) (hw : ∀ i j, i < n → j < m' → w' i j - q' j ≤ gt (fun i j => w i j - q j) i (σ i)) :
    wt n w' τ ≤ sumN n (fun i => gt (fun i j => w i j - q j) i (σ i)) + sumN m' q' := by
  rw [wt_split (q := q')]
  have h1 := sum_img q' ht hq
  have h2 : sumN n (fun i => gt (fun i j => w' i j - q' j) i (τ i)) ≤ sumN n (fun i => gt (fun i j => w i j - q j) i (σ i)) := by
    refine sumN_le fun i hi => ?_
    cases e : τ i with
    | none => exact h.gain hi
    | some j => exact hw i j hi (ht.lot i j hi e)
  omega
/-- a fair award is worth most, and its prices are at least what another lot of the kind would be worth -/
theorem FairA.best {n m : Nat} {w : Nat → Nat → Int} {σ : Nat → Option Nat} {q : Nat → Int} (h : FairA n m w σ q) {M : Int} (hM : IsMax n m w M) : wt n w σ = M := by
  obtain ⟨τ, ht, hτ⟩ := hM.at_
  have h1 := hM.le σ h.val
  have h2 := h.bound ht h.nn (fun i j hi hj => h.ef i j hi hj)
  rw [← h.sum] at h2
  omega
theorem FairA.least {n m k : Nat} {w : Nat → Nat → Int} {σ : Nat → Option Nat} {q : Nat → Int} (h : FairA n m w σ q) {M Mk : Int} (hM : IsMax n m w M) (hMk : IsMax n (m + 1) (dup m k w) Mk) (hk : k < m) : Mk - M ≤ q k := by
  obtain ⟨τ, ht, hτ⟩ := hMk.at_
  have h2 := h.bound (q' := fun j => if j = m then q k else q j) (w' := dup m k w) ht (fun j hj => by split; exact h.nn k hk; exact h.nn j (by omega)) (fun i j hi hj => by
    unfold dup
    split
    · exact h.ef i k hi hk
    · exact h.ef i j hi (by omega))
  rw [sumN, sumN_congr (n := m) (f := fun j => if j = m then q k else q j) (g := q) (fun j hj => by rw [if_neg (by omega)]), if_pos rfl] at h2
  have h3 := h.best hM
  rw [h.sum] at h3
  omega
/-- without bidder i: there is a greatest worth -/
theorem maxO {n m i : Nat} {w : Nat → Nat → Int} {B : Int} (hB : ∀ σ, Val n m σ → σ i = none → wt n w σ ≤ B) : ∃ M, IsMaxO n m i w M := by
  have key : ∀ (d : Nat) (σ : Nat → Option Nat), Val n m σ → σ i = none → B - wt n w σ ≤ d → ∃ M, IsMaxO n m i w M := by
    intro d
    induction d with
    | zero => intro σ h1 h2 h3; exact ⟨wt n w σ, ⟨σ, h1, h2, rfl⟩, fun τ h4 h5 => by have := hB τ h4 h5; omega⟩
    | succ d ih =>
      intro σ h1 h2 h3
      by_cases h : ∃ τ, Val n m τ ∧ τ i = none ∧ wt n w σ < wt n w τ
      · obtain ⟨τ, h4, h5, h6⟩ := h
        exact ih τ h4 h5 (by omega)
      · exact ⟨wt n w σ, ⟨σ, h1, h2, rfl⟩, fun τ h4 h5 => Int.not_lt.1 (fun h6 => h ⟨τ, h4, h5, h6⟩)⟩
  have hv : Val n m (fun _ => none) := ⟨fun _ _ _ h => (by cases h), fun _ _ _ _ _ h => (by cases h)⟩
  exact key (B - wt n w (fun _ => none)).toNat _ hv rfl (by omega)
theorem maxO_of {n m i : Nat} {w : Nat → Nat → Int} {M : Int} (hM : IsMax n m w M) : ∃ Mi, IsMaxO n m i w Mi ∧ Mi ≤ M := by
  obtain ⟨Mi, h⟩ := maxO (i := i) (fun σ h1 _ => hM.le σ h1)
  obtain ⟨σ, h1, h2, h3⟩ := h.at_
  exact ⟨Mi, h, by have := hM.le σ h1; omega⟩
/-- the least prices are fair with any best award -/
theorem fair_least {n m : Nat} {w : Nat → Nat → Int} {M : Int} {σ : Nat → Option Nat} {P : Nat → Int} (hM : IsMax n m w M) (hP : ∀ k, k < m → IsMax n (m + 1) (dup m k w) (P k)) (hs : Val n m σ) (ho : wt n w σ = M) : FairA n m w σ (fun k => P k - M) := by
  have emb : ∀ {τ : Nat → Option Nat} {k : Nat}, Val n m τ → Val n (m + 1) τ ∧ wt n (dup m k w) τ = wt n w τ := by
    intro τ k h
    refine ⟨⟨fun i j hi e => by have := h.lot i j hi e; omega, h.inj⟩, ?_⟩
    unfold wt
    refine sumN_congr fun i hi => ?_
    cases e : τ i with
    | none => rfl
    | some j => exact dup_lt i j (h.lot i j hi e)
  have put : ∀ {τ : Nat → Option Nat} {i k : Nat}, Val n m τ → τ i = none → i < n → k < m → Val n (m + 1) (fun b => if b = i then some m else τ b) ∧ wt n (dup m k w) (fun b => if b = i then some m else τ b) = wt n w τ + w i k := by
    intro τ i k h h0 hi hk
    refine ⟨⟨fun b j hb e => ?_, fun b b' j hb hb' e e' => ?_⟩, ?_⟩
    · split at e
      · injection e with e; omega
      · have := h.lot b j hb e; omega
    · split at e <;> split at e'
      · omega
      · injection e with e; subst e; have := h.lot b' _ hb' e'; omega
      · injection e' with e'; subst e'; have := h.lot b _ hb e; omega
      · exact h.inj b b' j hb hb' e e'
    · unfold wt
      rw [sumN_upd _ (fun b => gt w b (τ b)) hi (fun b hb hne => by
        simp only [if_neg hne]
        cases e : τ b with
        | none => rfl
        | some j => exact dup_lt b j (h.lot b j hb e))]
      simp only [if_pos rfl, h0]
      show _ - 0 + dup m k w i m = _
      unfold dup; rw [if_pos rfl]; omega
  refine ⟨hs, fun k hk => ?_, fun k hk hno => ?_, fun i k hi e => ?_, fun i k hi hk => ?_⟩
  · have := (hP k hk).le σ (emb (k := k) hs).1; rw [(emb hs).2] at this; omega
  · have h1 := unsold hs hM (hP k hk) ho hk hno
    have := (hP k hk).le σ (emb (k := k) hs).1; rw [(emb hs).2] at this; omega
  · have hk := hs.lot i k hi e
    obtain ⟨Mi, h1, h2⟩ := maxO_of (i := i) hM
    have := vick hs hM (hP k hk) h1 ho hi e
    omega
  · cases e : σ i with
    | none =>
      have h1 := put (k := k) hs e hi hk
      have := (hP k hk).le _ h1.1
      rw [h1.2] at this
      show w i k - (P k - M) ≤ 0
      omega
    | some a =>
      have ha := hs.lot i a hi e
      obtain ⟨Mi, h1, h2⟩ := maxO_of (i := i) hM
      have h3 := vick hs hM (hP a ha) h1 ho hi e
      obtain ⟨ρ, r1, r2, r3⟩ := h1.at_
      have h4 := put (k := k) r1 r2 hi hk
      have h5 := (hP k hk).le _ h4.1
      rw [h4.2] at h5
      show w i k - (P k - M) ≤ w i a - (P a - M)
      omega
/-- nobody gains by a lie -/
theorem truth {n m i : Nat} {w w' : Nat → Nat → Int} {M M' : Int} {σ σ' : Nat → Option Nat} {P P' : Nat → Int} (hi : i < n) (hw : ∀ k, k < n → k ≠ i → ∀ j, w' k j = w k j)
    (hM : IsMax n m w M) (hP : ∀ k, k < m → IsMax n (m + 1) (dup m k w) (P k)) (hs : Val n m σ) (ho : wt n w σ = M)
    (hM' : IsMax n m w' M') (hP' : ∀ k, k < m → IsMax n (m + 1) (dup m k w') (P' k)) (hs' : Val n m σ') (ho' : wt n w' σ' = M') :
    gt (fun i j => w i j - (P' j - M')) i (σ' i) ≤ gt (fun i j => w i j - (P j - M)) i (σ i) := by
  have hf := fair_least hM hP hs ho
  have h0 := hf.gain hi
  cases e' : σ' i with
  | none => exact h0
  | some b =>
    have hb := hs'.lot i b hi e'
    obtain ⟨Mi, h1, h2⟩ := maxO_of (i := i) hM
    have h1' : IsMaxO n m i w' Mi := by
      have eq : ∀ τ : Nat → Option Nat, τ i = none → wt n w' τ = wt n w τ := by
        intro τ h
        unfold wt
        refine sumN_congr fun k hk => ?_
        by_cases hki : k = i
        · rw [hki, h]; rfl
        · cases τ k with
          | none => rfl
          | some j => exact hw k hk hki j
      obtain ⟨ρ, r1, r2, r3⟩ := h1.at_
      exact ⟨⟨ρ, r1, r2, by rw [eq ρ r2]; exact r3⟩, fun τ t1 t2 => by rw [eq τ t2]; exact h1.le τ t1 t2⟩
    have v := vick hs' hM' (hP' b hb) h1' ho' hi e'
    -- what the others have in the award of the lie
    have d := drp_wt (n := n) w σ' hi
    have d' := drp_wt (n := n) w' σ' hi
    have eqd : wt n w' (drp i σ') = wt n w (drp i σ') := by
      unfold wt
      refine sumN_congr fun k hk => ?_
      by_cases hki : k = i
      · rw [hki]; simp [drp, gt]
      · cases drp i σ' k with
        | none => rfl
        | some j => exact hw k hk hki j
    have le := hM.le σ' hs'
    rw [e'] at d d'
    simp only [gt] at d d'
    have main : M' - w' i b + w i b ≤ M := by omega
    have hy : w i b - (P' b - M') ≤ M - Mi := by omega
    cases e : σ i with
    | none =>
      have : M ≤ Mi := by rw [← ho]; exact h1.le σ hs e
      show w i b - (P' b - M') ≤ 0
      omega
    | some a =>
      have v2 := vick hs hM (hP a (hs.lot i a hi e)) h1 ho hi e
      show w i b - (P' b - M') ≤ w i a - (P a - M)
      omega
/-- another lot is worth at most what somebody would give for it -/
theorem price_le {n m k : Nat} {w : Nat → Nat → Int} {M Mk V : Int} (hM : IsMax n m w M) (hMk : IsMax n (m + 1) (dup m k w) Mk) (h0 : 0 ≤ V) (hV : ∀ i, i < n → w i k ≤ V) : Mk - M ≤ V := by
  obtain ⟨τ, ht, hτ⟩ := hMk.at_
  have clean : ∀ ρ, Val n (m + 1) ρ → (∀ i, i < n → ρ i ≠ some m) → wt n (dup m k w) ρ ≤ M := by
    intro ρ h hno
    have hv : Val n m ρ := ⟨fun i j hi e => by
      have := h.lot i j hi e
      have : j ≠ m := fun e2 => hno i hi (e2 ▸ e)
      omega, h.inj⟩
    have := hM.le ρ hv
    have e : wt n (dup m k w) ρ = wt n w ρ := by
      unfold wt
      refine sumN_congr fun i hi => ?_
      cases e : ρ i with
      | none => rfl
      | some j => exact dup_lt i j (hv.lot i j hi e)
    omega
  by_cases h : ∃ i, i < n ∧ τ i = some m
  · obtain ⟨i, hi, e⟩ := h
    have d := drp_wt (dup m k w) τ hi
    rw [e] at d
    have h1 := clean (drp i τ) (drp_val ht) (fun j hj e2 => by
      unfold drp at e2
      split at e2
      · cases e2
      · rename_i hne; exact hne (ht.inj j i m hj hi e2 e))
    have h2 := hV i hi
    have h3 : gt (dup m k w) i (some m) = w i k := by show dup m k w i m = _; unfold dup; rw [if_pos rfl]
    omega
  · have := clean τ ht (fun i hi e => h ⟨i, hi, e⟩)
    omega
/-- with a greater reserve of a lot (so much less above it) no price is less: d is by how much the reserve of lot c grows -/
theorem more_reserve {n m k c : Nat} {w w' : Nat → Nat → Int} {d M Mk N Nk : Int} (hd : 0 ≤ d) (hw : ∀ i j, w' i j = w i j - (if j = c then d else 0))
    (hM : IsMax n m w M) (hMk : IsMax n (m + 1) (dup m k w) Mk) (hN : IsMax n m w' N) (hNk : IsMax n (m + 1) (dup m k w') Nk) : Mk - M ≤ Nk - N + (if k = c then d else 0) := by
  obtain ⟨τ, ht, hτ⟩ := hMk.at_
  obtain ⟨σ, hs, hσ⟩ := hN.at_
  have e := x_sum w (dup m k w) hs ht (fun i j hj => dup_lt i j hj)
  have h1 := hNk.le _ (xs_val hs ht)
  have h2 := hM.le _ (xt_val hs ht)
  -- how many get lot c
  have cost : ∀ (m' : Nat) (w0 w1 : Nat → Nat → Int) (f : Nat → Int) (ρ : Nat → Option Nat), (∀ i j, w1 i j = w0 i j - f j) → wt n w0 ρ = wt n w1 ρ + sumN n (fun i => gt (fun _ j => f j) i (ρ i)) := by
    intro m' w0 w1 f ρ h
    unfold wt
    rw [← sumN_add]
    refine sumN_congr fun i _ => ?_
    cases ρ i with
    | none => rfl
    | some j => show w0 i j = w1 i j + f j; rw [h]; omega
  have c1 := cost m w w' (fun j => if j = c then d else 0) σ (fun i j => hw i j)
  have c2 := cost (m + 1) (dup m k w) (dup m k w') (fun j => if (if j = m then k else j) = c then d else 0) (xs n m σ τ) (fun i j => by unfold dup; rw [hw])
  -- the copy costs at most one more
  have c3 : sumN n (fun i => gt (fun _ j => if (if j = m then k else j) = c then d else 0) i (xs n m σ τ i)) ≤ sumN n (fun i => gt (fun _ j => if j = c then d else 0) i (σ i)) + (if k = c then d else 0) := by
    have hx := xs_val hs ht
    -- over lots
    have i1 := sum_img_eq (n := n) (m := m) (σ := σ) (fun j => if (∃ i, i < n ∧ σ i = some j) then (if j = c then d else 0) else 0) hs (fun j hj hno => by
      rw [if_neg]; rintro ⟨i, hi, e⟩; exact hno i hi e)
    have i2 : sumN n (fun i => gt (fun _ j => if (∃ i, i < n ∧ σ i = some j) then (if j = c then d else 0) else 0) i (σ i)) = sumN n (fun i => gt (fun _ j => if j = c then d else 0) i (σ i)) := sumN_congr fun i hi => by
      cases e : σ i with
      | none => rfl
      | some j => exact if_pos ⟨i, hi, e⟩
    have i3 := sum_img (n := n) (m := m + 1) (σ := xs n m σ τ) (fun j => if j = m then (if k = c then d else 0) else if (∃ i, i < n ∧ σ i = some j) then (if j = c then d else 0) else 0) hx (fun j hj => by
      repeat' split
      all_goals omega)
    have i4 : sumN n (fun i => gt (fun _ j => if j = m then (if k = c then d else 0) else if (∃ i, i < n ∧ σ i = some j) then (if j = c then d else 0) else 0) i (xs n m σ τ i)) = sumN n (fun i => gt (fun _ j => if (if j = m then k else j) = c then d else 0) i (xs n m σ τ i)) := sumN_congr fun i hi => by
      cases e : xs n m σ τ i with
      | none => rfl
      | some j =>
        show (if j = m then _ else _) = (if (if j = m then k else j) = c then d else 0)
        by_cases hj : j = m
        · rw [if_pos hj, if_pos hj]
        · have := hx.lot i j hi e
          rw [if_neg hj, if_neg hj, if_pos (xs_img hi (by omega) e)]
    rw [i4, sumN] at i3
    rw [if_pos rfl] at i3
    rw [sumN_congr (n := m) (f := fun j => if j = m then (if k = c then d else 0) else if (∃ i, i < n ∧ σ i = some j) then (if j = c then d else 0) else 0) (g := fun j => if (∃ i, i < n ∧ σ i = some j) then (if j = c then d else 0) else 0) (fun j hj => by rw [if_neg (by omega)])] at i3
    omega
  omega
end Am
namespace Am

theorem sumN_left (n : Nat) (f : Nat → Int) : sumN (n + 1) f = f 0 + sumN n (fun i => f (i + 1)) := by
  induction n with
  | zero => simp [sumN]
  | succ n ih => rw [sumN, ih, sumN]; omega
theorem IsMax.congr {n m : Nat} {w w' : Nat → Nat → Int} {M : Int} (h : IsMax n m w M) (e : ∀ i j, i < n → j < m → w i j = w' i j) : IsMax n m w' M := by
  have key : ∀ σ, Val n m σ → wt n w' σ = wt n w σ := fun σ hs => sumN_congr fun i hi => by
    cases hσ : σ i with
    | none => rfl
    | some j => exact (e i j hi (hs.lot i j hi hσ)).symm
  obtain ⟨σ, h1, h2⟩ := h.at_
  exact ⟨⟨σ, h1, (key σ h1).trans h2⟩, fun σ hs => by rw [key σ hs]; exact h.le σ hs⟩
/-- what a list says: who gets which lot -/
def sig (to : List Int) : Nat → Option Nat := fun i => match to[i]? with
  | some k => if 0 ≤ k then some k.toNat else none
  | none => none
theorem sig_some {to : List Int} {i j : Nat} : sig to i = some j ↔ to[i]? = some (j : Int) := by
  unfold sig
  cases h : to[i]? with
  | none => simp
  | some k =>
    by_cases h0 : 0 ≤ k
    · simp only [if_pos h0, Option.some.injEq]; omega
    · simp only [if_neg h0, Option.some.injEq]
      constructor
      · intro h; cases h
      · intro h; omega
/-- a list of lots, none twice -/
structure OkL (m : Nat) (so : List Int) : Prop where
  rng : ∀ k ∈ so, -1 ≤ k ∧ k < m
  nd : (so.filter (fun k => decide (0 ≤ k))).Nodup
theorem OkL.nil (m : Nat) : OkL m [] := ⟨fun _ h => (by cases h), by simp⟩
theorem OkL.snoc {m : Nat} {so : List Int} {k : Int} : OkL m (so ++ [k]) ↔ OkL m so ∧ (-1 ≤ k ∧ k < m) ∧ (0 ≤ k → k ∉ so) := by
  constructor
  · intro ⟨h1, h2⟩
    rw [List.filter_append] at h2
    have h3 := List.nodup_append.1 h2
    refine ⟨⟨fun q hq => h1 q (List.mem_append_left _ hq), h3.1⟩, h1 k (by simp), fun h0 hk => ?_⟩
    exact h3.2.2 k (List.mem_filter.2 ⟨hk, by simpa using h0⟩) k (by simp [h0]) rfl
  · intro ⟨⟨h1, h2⟩, h3, h4⟩
    refine ⟨fun q hq => ?_, ?_⟩
    · rcases List.mem_append.1 hq with e | e
      · exact h1 q e
      · simp at e; rw [e]; exact h3
    · rw [List.filter_append]
      by_cases h0 : 0 ≤ k
      · rw [show [k].filter (fun k => decide (0 ≤ k)) = [k] by simp [h0]]
        refine List.nodup_append.2 ⟨h2, by simp, fun a ha b hb => ?_⟩
        simp at hb; rw [hb]
        exact fun e => h4 h0 (e ▸ (List.mem_filter.1 ha).1)
      · rw [show [k].filter (fun k => decide (0 ≤ k)) = [] by simp [h0], List.append_nil]; exact h2
theorem OkL.pre {m : Nat} {a b : List Int} (h : OkL m (a ++ b)) : OkL m a :=
  ⟨fun k hk => h.rng k (List.mem_append_left _ hk), by have := h.nd; rw [List.filter_append] at this; exact (List.nodup_append.1 this).1⟩
theorem ok_inj {m : Nat} : ∀ {to : List Int}, OkL m to → ∀ {i i' : Nat} {k : Int}, to[i]? = some k → to[i']? = some k → 0 ≤ k → i = i'
  | [], _, i, i', k, h, _, _ => by simp at h
  | a :: to, hk, i, i', k, h, h', h0 => by
    have hs : OkL m to ∧ (0 ≤ a → a ∉ to) := by
      refine ⟨⟨fun q hq => hk.rng q (List.mem_cons_of_mem _ hq), ?_⟩, fun h0 hm => ?_⟩
      · have := hk.nd; rw [List.filter_cons] at this
        split at this
        · exact (List.nodup_cons.1 this).2
        · exact this
      · have := hk.nd; rw [List.filter_cons, if_pos (by simpa using h0)] at this
        exact (List.nodup_cons.1 this).1 (List.mem_filter.2 ⟨hm, by simpa using h0⟩)
    cases i with
    | zero =>
      cases i' with
      | zero => rfl
      | succ i' =>
        simp at h h'
        rw [h] at hs
        exact absurd (List.mem_of_getElem? h') (hs.2 h0)
    | succ i =>
      cases i' with
      | zero =>
        simp at h h'
        rw [h'] at hs
        exact absurd (List.mem_of_getElem? h) (hs.2 h0)
      | succ i' =>
        simp at h h'
        rw [ok_inj hs.1 h h' h0]
theorem ok_of {m : Nat} {to : List Int} (h1 : ∀ k ∈ to, -1 ≤ k ∧ k < m) (h2 : ∀ (i i' : Nat) (k : Int), to[i]? = some k → to[i']? = some k → 0 ≤ k → i = i') : OkL m to := by
  refine ⟨h1, ?_⟩
  clear h1
  induction to with
  | nil => simp
  | cons a to ih =>
    have hi := ih (fun i i' k h h' h0 => by have := h2 (i + 1) (i' + 1) k (by simpa using h) (by simpa using h') h0; omega)
    rw [List.filter_cons]
    by_cases h0 : 0 ≤ a
    · rw [if_pos (by simpa using h0)]
      refine List.nodup_cons.2 ⟨fun hm => ?_, hi⟩
      obtain ⟨i, hi'⟩ := List.mem_iff_getElem?.1 (List.mem_filter.1 hm).1
      have := h2 0 (i + 1) a (by simp) (by simpa using hi') h0
      omega
    · rw [if_neg (by simpa using h0)]; exact hi
theorem sig_val {m : Nat} {to : List Int} (h : OkL m to) : Val to.length m (sig to) := by
  refine ⟨fun i j _ e => ?_, fun i i' j _ _ e e' => ?_⟩
  · have := h.rng _ (List.mem_of_getElem? (sig_some.1 e)); omega
  · exact ok_inj h (sig_some.1 e) (sig_some.1 e') (by omega)
/-- the list of an award -/
def lst (n : Nat) (σ : Nat → Option Nat) : List Int := (List.range n).map (fun i => match σ i with | none => -1 | some j => (j : Int))
theorem lst_len (n : Nat) (σ : Nat → Option Nat) : (lst n σ).length = n := by simp [lst]
theorem lst_get {n : Nat} {σ : Nat → Option Nat} {i : Nat} (hi : i < n) : (lst n σ)[i]? = some (match σ i with | none => -1 | some j => (j : Int)) := by
  unfold lst; rw [List.getElem?_map, List.getElem?_range hi]; rfl
theorem lst_sig {n : Nat} {σ : Nat → Option Nat} {i : Nat} (hi : i < n) : sig (lst n σ) i = σ i := by
  unfold sig; rw [lst_get hi]
  cases h : σ i with
  | none => rfl
  | some j => simp only; rw [if_pos (by omega)]; simp
theorem lst_ok {n m : Nat} {σ : Nat → Option Nat} (h : Val n m σ) : OkL m (lst n σ) := by
  refine ok_of (fun k hk => ?_) (fun i i' k hi hi' h0 => ?_)
  · obtain ⟨i, hi, e⟩ := List.mem_map.1 hk
    have hin := List.mem_range.1 hi
    cases hs : σ i with
    | none => rw [hs] at e; simp only at e; omega
    | some j => rw [hs] at e; simp only at e; have := h.lot i j hin hs; omega
  · have hl := (List.getElem?_eq_some_iff.1 hi).1
    have hl' := (List.getElem?_eq_some_iff.1 hi').1
    rw [lst_len] at hl hl'
    rw [lst_get hl] at hi; rw [lst_get hl'] at hi'
    cases hs : σ i with
    | none => rw [hs] at hi; simp at hi; omega
    | some j =>
      cases hs' : σ i' with
      | none => rw [hs'] at hi'; simp at hi'; omega
      | some j' =>
        rw [hs] at hi; rw [hs'] at hi'
        simp at hi hi'
        have : j = j' := by omega
        exact h.inj i i' j hl hl' hs (this ▸ hs')
theorem wt_lst {n : Nat} (w : Nat → Nat → Int) (σ : Nat → Option Nat) : wt n w (sig (lst n σ)) = wt n w σ := sumN_congr fun i hi => by rw [lst_sig hi]

/-! ### worth -/
def rv (res : List Int) (j : Nat) : Int := res.getD j 0
def vv (rows : List (List Int)) (i j : Nat) : Int := (rows.getD i []).getD j 0
def wv (res : List Int) (rows : List (List Int)) (i j : Nat) : Int := vv rows i j - rv res j
def sumR (res : List Int) : Int := sumN res.length (rv res)
/-- the program's: lots that nobody gets, then what is given -/
def wFree (to : List Int) : List Int → Int → Int → Int
  | [], _, n => n
  | r :: l, k, n => wFree to l (k + 1) (if to.contains k then n else n + r)
def wGot (rows : List (List Int)) : List Int → Nat → Int → Int
  | [], _, n => n
  | k :: t, i, n => wGot rows t (i + 1) (if 0 ≤ k then n + vv rows i k.toNat else n)
theorem wFree_drop (to res : List Int) (k : Nat) (r n : Int) (h : res[k]? = some r) : wFree to (res.drop k) k n = wFree to (res.drop (k + 1)) ((k + 1 : Nat) : Int) (if to.contains (k : Int) then n else n + r) := by
  obtain ⟨h1, h2⟩ := List.getElem?_eq_some_iff.1 h
  rw [List.drop_eq_getElem_cons h1, h2, wFree]; rfl
theorem wGot_drop (rows : List (List Int)) (to : List Int) (i : Nat) (k n : Int) (h : to[i]? = some k) : wGot rows (to.drop i) i n = wGot rows (to.drop (i + 1)) (i + 1) (if 0 ≤ k then n + vv rows i k.toNat else n) := by
  obtain ⟨h1, h2⟩ := List.getElem?_eq_some_iff.1 h
  rw [List.drop_eq_getElem_cons h1, h2, wGot]
def worthP (res : List Int) (rows : List (List Int)) (to : List Int) : Int := wGot rows to 0 (wFree to res 0 0)
theorem wFree_sum (to : List Int) : ∀ (l : List Int) (k : Nat) (n : Int), wFree to l k n = n + sumN l.length (fun j => if to.contains ((k + j : Nat) : Int) then 0 else l.getD j 0)
  | [], k, n => by simp [wFree, sumN]
  | r :: l, k, n => by
    rw [wFree, show ((k : Int) + 1) = ((k + 1 : Nat) : Int) from rfl, wFree_sum to l (k + 1), List.length_cons, sumN_left]
    rw [sumN_congr (n := l.length) (f := fun i => if to.contains ((k + (i + 1) : Nat) : Int) then (0 : Int) else (r :: l).getD (i + 1) 0) (g := fun j => if to.contains ((k + 1 + j : Nat) : Int) then 0 else l.getD j 0) (fun i _ => by rw [show k + (i + 1) = k + 1 + i by omega]; rfl)]
    simp only [Nat.add_zero, List.getD_cons_zero]
    split <;> omega
theorem wGot_sum (rows : List (List Int)) : ∀ (t : List Int) (i : Nat) (n : Int), wGot rows t i n = n + sumN t.length (fun k => gt (fun a b => vv rows (i + a) b) k (sig t k))
  | [], i, n => by simp [wGot, sumN]
  | k :: t, i, n => by
    rw [wGot, wGot_sum rows t (i + 1), List.length_cons, sumN_left]
    rw [sumN_congr (n := t.length) (f := fun j => gt (fun a b => vv rows (i + a) b) (j + 1) (sig (k :: t) (j + 1))) (g := fun j => gt (fun a b => vv rows (i + 1 + a) b) j (sig t j)) (fun j _ => by
      rw [show sig (k :: t) (j + 1) = sig t j from rfl]
      cases sig t j with
      | none => rfl
      | some b => show vv rows (i + (j + 1)) b = vv rows (i + 1 + j) b; rw [show i + (j + 1) = i + 1 + j by omega])]
    have : gt (fun a b => vv rows (i + a) b) 0 (sig (k :: t) 0) = if 0 ≤ k then vv rows i k.toNat else 0 := by
      unfold sig
      by_cases h : 0 ≤ k
      · simp [h, gt]
      · simp [h, gt]
    rw [this]
    split <;> omega
theorem sold_iff {to : List Int} {j : Nat} : (to.contains (j : Int) = true) ↔ ∃ i, i < to.length ∧ sig to i = some j := by
  rw [List.contains_iff_mem]
  constructor
  · intro h
    obtain ⟨i, hi⟩ := List.mem_iff_getElem?.1 h
    exact ⟨i, (List.getElem?_eq_some_iff.1 hi).1, sig_some.2 hi⟩
  · rintro ⟨i, _, e⟩
    exact List.mem_of_getElem? (sig_some.1 e)
theorem worthP_eq {res : List Int} {rows : List (List Int)} {to : List Int} (h : OkL res.length to) : worthP res rows to = sumR res + wt to.length (wv res rows) (sig to) := by
  have hv := sig_val h
  unfold worthP
  rw [wGot_sum, show wFree to res 0 0 = wFree to res ((0 : Nat) : Int) 0 from rfl, wFree_sum]
  simp only [Nat.zero_add]
  have e := sum_img_eq (fun j => if to.contains (j : Int) then rv res j else 0) hv (fun j _ hno => by
    rw [if_neg]; intro hc
    obtain ⟨i, hi, e⟩ := (sold_iff).1 hc
    exact hno i hi e)
  have e2 : sumR res = sumN res.length (fun j => if to.contains (j : Int) then 0 else res.getD j 0) + sumN res.length (fun j => if to.contains (j : Int) then rv res j else 0) := by
    rw [← sumN_add]
    refine sumN_congr fun j _ => ?_
    split
    · omega
    · show res.getD j 0 = _; omega
  have e3 : sumN to.length (fun k => gt (fun a b => vv rows a b) k (sig to k)) = wt to.length (wv res rows) (sig to) + sumN to.length (fun i => gt (fun _ j => if to.contains (j : Int) then rv res j else 0) i (sig to i)) := by
    unfold wt
    rw [← sumN_add]
    refine sumN_congr fun i hi => ?_
    cases hs : sig to i with
    | none => rfl
    | some j =>
      show vv rows i j = wv res rows i j + (if to.contains (j : Int) then rv res j else 0)
      rw [if_pos ((sold_iff).2 ⟨i, hi, hs⟩)]
      unfold wv; omega
  omega
/-- the reference's: lot by lot -/
def seekN : List Int → Int → Int → Int
  | [], _, _ => -1
  | x :: l, n, i => if x = n then i else seekN l n (i + 1)
theorem seekN_spec : ∀ (l : List Int) (n : Int) (i : Nat), (seekN l n i = -1 ∧ n ∉ l) ∨ ∃ k, l[k]? = some n ∧ seekN l n i = (i + k : Nat)
  | [], n, i => .inl ⟨rfl, by simp⟩
  | x :: l, n, i => by
    rw [seekN]
    by_cases h : x = n
    · rw [if_pos h]; exact .inr ⟨0, by simp [h], by simp⟩
    · rw [if_neg h, show ((i : Int) + 1) = ((i + 1 : Nat) : Int) from rfl]
      rcases seekN_spec l n (i + 1) with ⟨a, b⟩ | ⟨k, a, b⟩
      · exact .inl ⟨a, by simp [b]; exact fun e => h e.symm⟩
      · exact .inr ⟨k + 1, by simpa using a, by rw [b]; omega⟩
def wLot (rows : List (List Int)) (to : List Int) : List Int → Nat → Int → Int
  | [], _, n => n
  | r :: l, j, n => wLot rows to l (j + 1) (if 0 ≤ seekN to j 0 then n + vv rows (seekN to j 0).toNat j else n + r)
theorem wLot_drop (rows : List (List Int)) (to res : List Int) (j : Nat) (r n : Int) (h : res[j]? = some r) : wLot rows to (res.drop j) j n = wLot rows to (res.drop (j + 1)) (j + 1) (if 0 ≤ seekN to j 0 then n + vv rows (seekN to j 0).toNat j else n + r) := by
  obtain ⟨h1, h2⟩ := List.getElem?_eq_some_iff.1 h
  rw [List.drop_eq_getElem_cons h1, h2, wLot]
def worthR (res : List Int) (rows : List (List Int)) (to : List Int) : Int := wLot rows to res 0 0
theorem wLot_sum (rows : List (List Int)) (to : List Int) : ∀ (l : List Int) (j : Nat) (n : Int), wLot rows to l j n = n + sumN l.length (fun k => if 0 ≤ seekN to ((j + k : Nat) : Int) 0 then vv rows (seekN to ((j + k : Nat) : Int) 0).toNat (j + k) else l.getD k 0)
  | [], j, n => by simp [wLot, sumN]
  | r :: l, j, n => by
    rw [wLot, wLot_sum rows to l (j + 1), List.length_cons, sumN_left]
    rw [sumN_congr (n := l.length) (f := fun k => if 0 ≤ seekN to ((j + (k + 1) : Nat) : Int) 0 then vv rows (seekN to ((j + (k + 1) : Nat) : Int) 0).toNat (j + (k + 1)) else (r :: l).getD (k + 1) 0) (g := fun k => if 0 ≤ seekN to ((j + 1 + k : Nat) : Int) 0 then vv rows (seekN to ((j + 1 + k : Nat) : Int) 0).toNat (j + 1 + k) else l.getD k 0) (fun i _ => by rw [show j + (i + 1) = j + 1 + i by omega]; rfl)]
    simp only [Nat.add_zero, List.getD_cons_zero]
    split <;> omega
theorem worthR_eq {res : List Int} {rows : List (List Int)} {to : List Int} (h : OkL res.length to) : worthR res rows to = sumR res + wt to.length (wv res rows) (sig to) := by
  have hv := sig_val h
  unfold worthR
  rw [wLot_sum]
  simp only [Nat.zero_add]
  have e := sum_img_eq (fun j => if 0 ≤ seekN to (j : Int) 0 then wv res rows (seekN to (j : Int) 0).toNat j else 0) hv (fun j _ hno => by
    rcases seekN_spec to j 0 with ⟨a, _⟩ | ⟨k, a, b⟩
    · rw [show seekN to (j : Int) 0 = seekN to (j : Int) ((0 : Nat) : Int) from rfl, a, if_neg (by omega)]
    · exact absurd (sig_some.2 a) (hno k (List.getElem?_eq_some_iff.1 a).1))
  have e3 : wt to.length (wv res rows) (sig to) = sumN to.length (fun i => gt (fun _ j => if 0 ≤ seekN to (j : Int) 0 then wv res rows (seekN to (j : Int) 0).toNat j else 0) i (sig to i)) := by
    refine sumN_congr fun i hi => ?_
    cases hs : sig to i with
    | none => rfl
    | some j =>
      have hget := sig_some.1 hs
      show wv res rows i j = _
      rcases seekN_spec to j 0 with ⟨_, b⟩ | ⟨k, a, b⟩
      · exact absurd (List.mem_of_getElem? hget) b
      · have hk := ok_inj h a hget (by omega)
        show _ = (if 0 ≤ seekN to (j : Int) ((0 : Nat) : Int) then wv res rows (seekN to (j : Int) ((0 : Nat) : Int)).toNat j else 0)
        rw [b, if_pos (by omega), hk]; simp
  rw [e3, e, sumR, ← sumN_add, Int.zero_add]
  refine sumN_congr fun j _ => ?_
  split
  · unfold wv; omega
  · show res.getD j 0 = rv res j + 0; unfold rv; omega
end Am
namespace Am

def bestS (f : List Int → Int) (s : List Int × Int) (so : List Int) : List Int × Int := if s.2 < f so then (so, f so) else s
/-- the lots that are tried: none, then each -/
def kL (m : Nat) : List Int := (List.range (m + 1)).map (fun i : Nat => (i : Int) - 1)
theorem kL_len (m : Nat) : (kL m).length = m + 1 := by simp [kL]
theorem kL_get {m t : Nat} (h : t ≤ m) : (kL m)[t]? = some ((t : Int) - 1) := by unfold kL; rw [List.getElem?_map, List.getElem?_range (by omega)]; rfl
theorem kL_mem {m : Nat} {k : Int} : k ∈ kL m ↔ -1 ≤ k ∧ k < m := by
  unfold kL
  rw [List.mem_map]
  constructor
  · rintro ⟨i, hi, e⟩; have := List.mem_range.1 hi; omega
  · intro h; exact ⟨(k + 1).toNat, List.mem_range.2 (by omega), by omega⟩
def goB (f : List Int → Int) (m : Nat) : Nat → List Int → List Int × Int → List Int × Int
  | 0, so, s => bestS f s so
  | d + 1, so, s => (kL m).foldl (fun s k => if k < 0 ∨ so.contains k = false then goB f m d (so ++ [k]) s else s) s
def stK (f : List Int → Int) (m d : Nat) (so : List Int) (s : List Int × Int) (k : Int) : List Int × Int := if k < 0 ∨ so.contains k = false then goB f m d (so ++ [k]) s else s
/-- the loop, from the t-th try on -/
def goK (f : List Int → Int) (m d : Nat) (so : List Int) (t : Nat) (s : List Int × Int) : List Int × Int := ((kL m).drop t).foldl (stK f m d so) s
theorem goK_0 (f : List Int → Int) (m d : Nat) (so : List Int) (s : List Int × Int) : goB f m (d + 1) so s = goK f m d so 0 s := rfl
theorem goK_s {f : List Int → Int} {m d : Nat} {so : List Int} {t : Nat} {s : List Int × Int} (h : t ≤ m) : goK f m d so t s = goK f m d so (t + 1) (stK f m d so s ((t : Int) - 1)) := by
  have hl : t < (kL m).length := by rw [kL_len]; omega
  unfold goK
  rw [List.drop_eq_getElem_cons hl, List.foldl_cons, show (kL m)[t] = (t : Int) - 1 from by have := kL_get h; rw [List.getElem?_eq_getElem hl] at this; exact Option.some.inj this]
theorem goK_end {f : List Int → Int} {m d : Nat} {so : List Int} {t : Nat} {s : List Int × Int} (h : m < t) : goK f m d so t s = s := by
  unfold goK; rw [List.drop_of_length_le (by rw [kL_len]; omega)]; rfl
/-- a list that completes another one -/
def Comp (m d : Nat) (so to : List Int) : Prop := OkL m to ∧ ∃ t, to = so ++ t ∧ t.length = d
structure Bst (f : List Int → Int) (C : List Int → Prop) (s s' : List Int × Int) : Prop where
  ge : s.2 ≤ s'.2
  all : ∀ to, C to → f to ≤ s'.2
  at_ : s' = s ∨ ∃ to, C to ∧ s' = (to, f to)
theorem goB_spec (f : List Int → Int) (m : Nat) : ∀ (d : Nat) (so : List Int) (s : List Int × Int), OkL m so → Bst f (Comp m d so) s (goB f m d so s)
  | 0, so, s, hs => by
    have hc : ∀ to, Comp m 0 so to → to = so := by rintro to ⟨_, t, e, hl⟩; rw [e, List.eq_nil_of_length_eq_zero hl, List.append_nil]
    have hso : Comp m 0 so so := ⟨hs, [], by simp, rfl⟩
    rw [goB, bestS]
    by_cases h : s.2 < f so
    · rw [if_pos h]; exact ⟨by simp only; omega, fun to ht => by rw [hc to ht]; exact Int.le_refl _, .inr ⟨so, hso, rfl⟩⟩
    · rw [if_neg h]; exact ⟨Int.le_refl _, fun to ht => by rw [hc to ht]; omega, .inl rfl⟩
  | d + 1, so, s, hs => by
    have key : ∀ (ks : List Int) (s : List Int × Int), (∀ k ∈ ks, -1 ≤ k ∧ k < m) → Bst f (fun to => ∃ k ∈ ks, Comp m d (so ++ [k]) to) s (ks.foldl (stK f m d so) s) := by
      intro ks
      induction ks with
      | nil => intro s _; exact ⟨Int.le_refl _, fun to ⟨k, hk, _⟩ => (by cases hk), .inl rfl⟩
      | cons k ks ih =>
        intro s hk
        rw [List.foldl_cons]
        obtain ⟨a1, a2, a3⟩ := ih (stK f m d so s k) (fun q hq => hk q (List.mem_cons_of_mem _ hq))
        have hkr := hk k (List.mem_cons_self ..)
        have hstep : Bst f (Comp m d (so ++ [k])) s (stK f m d so s k) := by
          unfold stK
          by_cases h : k < 0 ∨ so.contains k = false
          · rw [if_pos h]
            refine goB_spec f m d (so ++ [k]) s (OkL.snoc.2 ⟨hs, hkr, fun h0 hm => ?_⟩)
            rcases h with h | h
            · omega
            · rw [List.contains_iff_mem.2 hm] at h; cases h
          · rw [if_neg h]
            refine ⟨Int.le_refl _, fun to ht => ?_, .inl rfl⟩
            obtain ⟨hok, t, e, _⟩ := ht
            rw [e] at hok
            have := (OkL.snoc.1 hok.pre).2.2 (by omega)
            exact absurd (.inr (by cases hc : so.contains k; rfl; exact absurd (List.contains_iff_mem.1 hc) this)) h
        refine ⟨Int.le_trans hstep.ge a1, fun to ht => ?_, ?_⟩
        · obtain ⟨q, hq, hc⟩ := ht
          rcases List.mem_cons.1 hq with e | e
          · have := hstep.all to (e ▸ hc); omega
          · exact a2 to ⟨q, e, hc⟩
        · rcases a3 with e | ⟨to, ⟨q, hq, hc⟩, e⟩
          · rw [e]
            rcases hstep.at_ with e' | ⟨to, hc, e'⟩
            · exact .inl e'
            · exact .inr ⟨to, ⟨k, List.mem_cons_self .., hc⟩, e'⟩
          · exact .inr ⟨to, ⟨q, List.mem_cons_of_mem _ hq, hc⟩, e⟩
    obtain ⟨a1, a2, a3⟩ := key (kL m) s (fun k hk => kL_mem.1 hk)
    have hiff : ∀ to, Comp m (d + 1) so to ↔ ∃ k ∈ kL m, Comp m d (so ++ [k]) to := by
      intro to
      constructor
      · rintro ⟨hok, t, e, hl⟩
        cases t with
        | nil => simp at hl
        | cons k t =>
          refine ⟨k, kL_mem.2 (hok.rng k (by rw [e]; simp)), hok, t, by rw [e]; simp, by simpa using hl⟩
      · rintro ⟨k, _, hok, t, e, hl⟩
        exact ⟨hok, k :: t, by rw [e]; simp, by simp [hl]⟩
    show Bst f (Comp m (d + 1) so) s ((kL m).foldl (stK f m d so) s)
    exact ⟨a1, fun to ht => a2 to ((hiff to).1 ht), a3.imp id fun ⟨to, h, e⟩ => ⟨to, (hiff to).2 h, e⟩⟩
/-- the program's best list, and its worth -/
def bestF (res : List Int) (rows : List (List Int)) : List Int × Int := goB (worthP res rows) res.length rows.length [] ([], -1)
def nnL (l : List Int) : Prop := ∀ x ∈ l, 0 ≤ x
theorem getD_nn {l : List Int} (h : nnL l) (k : Nat) : 0 ≤ l.getD k 0 := by
  rw [List.getD_eq_getElem?_getD]
  cases hx : l[k]? with
  | none => simp
  | some x => exact h x (List.mem_of_getElem? hx)
theorem worth_nn {res : List Int} {rows : List (List Int)} (h1 : nnL res) (h2 : ∀ r ∈ rows, nnL r) (to : List Int) : 0 ≤ worthP res rows to := by
  have hvv : ∀ i j, 0 ≤ vv rows i j := by
    intro i j
    unfold vv
    refine getD_nn ?_ j
    rw [List.getD_eq_getElem?_getD]
    cases hr : rows[i]? with
    | none => intro x hx; cases hx
    | some r => exact h2 r (List.mem_of_getElem? hr)
  have g1 : ∀ (l : List Int) (k n : Int), nnL l → 0 ≤ n → 0 ≤ wFree to l k n := by
    intro l
    induction l with
    | nil => intro k n _ h; exact h
    | cons r l ih =>
      intro k n hl hn
      rw [wFree]
      have := hl r (List.mem_cons_self ..)
      exact ih _ _ (fun x hx => hl x (List.mem_cons_of_mem _ hx)) (by split <;> omega)
  have g2 : ∀ (t : List Int) (i : Nat) (n : Int), 0 ≤ n → 0 ≤ wGot rows t i n := by
    intro t
    induction t with
    | nil => intro i n h; exact h
    | cons k t ih =>
      intro i n hn
      rw [wGot]
      have := hvv i k.toNat
      exact ih _ _ (by split <;> omega)
  exact g2 to 0 _ (g1 res 0 0 h1 (Int.le_refl _))
theorem best_spec {res : List Int} {rows : List (List Int)} (h1 : nnL res) (h2 : ∀ r ∈ rows, nnL r) : OkL res.length (bestF res rows).1 ∧ (bestF res rows).1.length = rows.length ∧ (bestF res rows).2 = worthP res rows (bestF res rows).1 ∧ IsMax rows.length res.length (wv res rows) ((bestF res rows).2 - sumR res) ∧ wt rows.length (wv res rows) (sig (bestF res rows).1) = (bestF res rows).2 - sumR res := by
  obtain ⟨a1, a2, a3⟩ := goB_spec (worthP res rows) res.length rows.length [] ([], -1) (OkL.nil _)
  have hc : ∀ to, OkL res.length to → to.length = rows.length → Comp res.length rows.length [] to := fun to h hl => ⟨h, to, by simp, hl⟩
  have h0 : Val rows.length res.length (fun _ => none) := ⟨fun _ _ _ h => (by cases h), fun _ _ _ _ _ h => (by cases h)⟩
  have hz := a2 _ (hc _ (lst_ok h0) (lst_len _ _))
  have hzz := worth_nn h1 h2 (lst rows.length fun _ => none)
  rcases a3 with e | ⟨to, ⟨hok, t, e1, hl⟩, e⟩
  · rw [e] at hz; simp only at hz; omega
  · have e1' : to = t := by simpa using e1
    subst e1'
    have eb : bestF res rows = (to, worthP res rows to) := e
    have hw := worthP_eq (rows := rows) hok
    rw [hl] at hw
    have hv := sig_val hok
    rw [hl] at hv
    rw [eb]
    refine ⟨hok, hl, rfl, ⟨⟨sig to, hv, by simp only; omega⟩, fun σ hs => ?_⟩, by simp only; omega⟩
    have h3 := a2 _ (hc _ (lst_ok hs) (lst_len _ _))
    have h4 := worthP_eq (rows := rows) (lst_ok hs)
    rw [lst_len, wt_lst] at h4
    have eb2 : (goB (worthP res rows) res.length rows.length [] ([], -1)).2 = worthP res rows to := by rw [e]
    rw [eb2] at h3
    simp only; omega
/-! ### the reference: the lots that are free, as bits -/
def freeR (res : List Int) (f : Nat) : Int := sumN res.length (fun j => if f.testBit j then rv res j else 0)
def mostJ (row : List Int) (f : Nat) (g : Nat → Int) : Nat → Nat → Int → Int
  | 0, _, b => b
  | d + 1, j, b => mostJ row f g d (j + 1) (if f.testBit j then max b (row.getD j 0 + g (f - 2 ^ j)) else b)
def mostR (res : List Int) : List (List Int) → Nat → Int
  | [], f => freeR res f
  | row :: rest, f => mostJ row f (mostR res rest) res.length 0 (mostR res rest f)
structure IsFree (n m f : Nat) (w : Nat → Nat → Int) (M : Int) : Prop where
  at_ : ∃ σ, Val n m σ ∧ (∀ i j, i < n → σ i = some j → f.testBit j = true) ∧ wt n w σ = M
  le : ∀ σ, Val n m σ → (∀ i j, i < n → σ i = some j → f.testBit j = true) → wt n w σ ≤ M
theorem wt_left (n : Nat) (w : Nat → Nat → Int) (σ : Nat → Option Nat) : wt (n + 1) w σ = gt w 0 (σ 0) + wt n (fun i => w (i + 1)) (fun i => σ (i + 1)) := by
  unfold wt; rw [sumN_left]; congr 1
theorem bit_sub {f j k : Nat} (h : f.testBit j = true) : (f - 2 ^ j).testBit k = (f.testBit k && !(k == j)) := by
  have hq : 2 ^ (j + 1) * (f / 2 ^ (j + 1)) + f % 2 ^ (j + 1) = f := Nat.div_add_mod ..
  have hlt : f % 2 ^ (j + 1) < 2 ^ (j + 1) := Nat.mod_lt _ (Nat.two_pow_pos _)
  have hb : (f % 2 ^ (j + 1)).testBit j = true := by rw [Nat.testBit_mod_two_pow, h]; simp
  have hge := Nat.ge_two_pow_of_testBit hb
  have hp : 2 ^ (j + 1) = 2 * 2 ^ j := by rw [Nat.pow_succ]; omega
  obtain ⟨r, hr⟩ : ∃ r, f % 2 ^ (j + 1) = 2 ^ j + r := ⟨f % 2 ^ (j + 1) - 2 ^ j, by omega⟩
  have hrl : r < 2 ^ j := by omega
  rw [hr] at hq hlt
  have e1 : f - 2 ^ j = 2 ^ (j + 1) * (f / 2 ^ (j + 1)) + r := by omega
  rw [e1, Nat.testBit_two_pow_mul_add _ (by omega), ← hq, Nat.testBit_two_pow_mul_add _ hlt]
  have e2 : (2 ^ (j + 1) * (f / 2 ^ (j + 1)) + (2 ^ j + r)) / 2 ^ (j + 1) = f / 2 ^ (j + 1) := by rw [hq]
  rw [e2]
  by_cases hk : k < j + 1
  · rw [if_pos hk, if_pos hk]
    by_cases hkj : k = j
    · subst hkj; rw [Nat.testBit_lt_two_pow hrl]; simp
    · rw [Nat.testBit_two_pow_add_gt (by omega)]; simp [hkj]
  · rw [if_neg hk, if_neg hk]
    have : k ≠ j := by omega
    simp [this]
theorem free_sub {res : List Int} {f j : Nat} (h : f.testBit j = true) (hj : j < res.length) : freeR res (f - 2 ^ j) = freeR res f - rv res j := by
  unfold freeR
  rw [sumN_upd (fun k => if (f - 2 ^ j).testBit k then rv res k else 0) (fun k => if f.testBit k then rv res k else 0) hj (fun k _ hne => by
    simp only [bit_sub h]; simp [hne])]
  simp only [bit_sub h, h]; simp
theorem mostJ_spec (row : List Int) (f : Nat) (g : Nat → Int) : ∀ (d j : Nat) (b : Int), b ≤ mostJ row f g d j b ∧ (∀ k, j ≤ k → k < j + d → f.testBit k = true → row.getD k 0 + g (f - 2 ^ k) ≤ mostJ row f g d j b) ∧ (mostJ row f g d j b = b ∨ ∃ k, j ≤ k ∧ k < j + d ∧ f.testBit k = true ∧ mostJ row f g d j b = row.getD k 0 + g (f - 2 ^ k))
  | 0, j, b => ⟨Int.le_refl _, fun k h1 h2 => absurd h2 (by omega), .inl rfl⟩
  | d + 1, j, b => by
    rw [mostJ]
    by_cases hb : f.testBit j = true
    · rw [if_pos hb]
      obtain ⟨h1, h2, h3⟩ := mostJ_spec row f g d (j + 1) (max b (row.getD j 0 + g (f - 2 ^ j)))
      refine ⟨by omega, fun k hk1 hk2 hk => ?_, ?_⟩
      · by_cases e : k = j
        · rw [e]; omega
        · exact h2 k (by omega) (by omega) hk
      · rcases h3 with e | ⟨k, k1, k2, k3, k4⟩
        · by_cases hm : b ≤ row.getD j 0 + g (f - 2 ^ j)
          · exact .inr ⟨j, Nat.le_refl _, by omega, hb, by omega⟩
          · exact .inl (by omega)
        · exact .inr ⟨k, by omega, by omega, k3, k4⟩
    · rw [if_neg hb]
      obtain ⟨h1, h2, h3⟩ := mostJ_spec row f g d (j + 1) b
      refine ⟨h1, fun k hk1 hk2 hk => ?_, h3.imp id fun ⟨k, k1, k2, x⟩ => ⟨k, by omega, by omega, x⟩⟩
      by_cases e : k = j
      · rw [e] at hk; exact absurd hk hb
      · exact h2 k (by omega) (by omega) hk
theorem mostR_spec (res : List Int) : ∀ (rows : List (List Int)) (f : Nat), IsFree rows.length res.length f (wv res rows) (mostR res rows f - freeR res f)
  | [], f => by
    rw [mostR, Int.sub_self]
    exact ⟨⟨fun _ => none, ⟨fun _ _ h => absurd h (Nat.not_lt_zero _), fun _ _ _ h => absurd h (Nat.not_lt_zero _)⟩, fun _ _ h => absurd h (Nat.not_lt_zero _), rfl⟩, fun σ _ _ => Int.le_refl _⟩
  | row :: rest, f => by
    have hw0 : ∀ j, wv res (row :: rest) 0 j = row.getD j 0 - rv res j := fun j => rfl
    have hws : (fun i => wv res (row :: rest) (i + 1)) = wv res rest := rfl
    rw [mostR, List.length_cons]
    obtain ⟨b1, b2, b3⟩ := mostJ_spec row f (mostR res rest) res.length 0 (mostR res rest f)
    have hN := mostR_spec res rest f
    refine ⟨?_, fun σ hs hf => ?_⟩
    · rcases b3 with e | ⟨k, _, k2, k3, k4⟩
      · obtain ⟨σ, s1, s2, s3⟩ := hN.at_
        refine ⟨fun i => match i with | 0 => none | i + 1 => σ i, ⟨fun i j hi h => ?_, fun i i' j hi hi' h h' => ?_⟩, fun i j hi h => ?_, ?_⟩
        · cases i with
          | zero => cases h
          | succ i => exact s1.lot i j (by omega) h
        · cases i with
          | zero => cases h
          | succ i =>
            cases i' with
            | zero => cases h'
            | succ i' => rw [s1.inj i i' j (by omega) (by omega) h h']
        · cases i with
          | zero => cases h
          | succ i => exact s2 i j (by omega) h
        · rw [wt_left, hws]
          show (0 : Int) + wt rest.length (wv res rest) (fun i => σ i) = _
          rw [e]; have : wt rest.length (wv res rest) (fun i => σ i) = wt rest.length (wv res rest) σ := rfl
          omega
      · have hkm : k < res.length := by omega
        obtain ⟨σ, s1, s2, s3⟩ := (mostR_spec res rest (f - 2 ^ k)).at_
        have hne : ∀ i j, i < rest.length → σ i = some j → j ≠ k ∧ f.testBit j = true := fun i j hi h => by
          have := s2 i j hi h
          rw [bit_sub k3] at this
          simp at this; exact ⟨this.2, this.1⟩
        refine ⟨fun i => match i with | 0 => some k | i + 1 => σ i, ⟨fun i j hi h => ?_, fun i i' j hi hi' h h' => ?_⟩, fun i j hi h => ?_, ?_⟩
        · cases i with
          | zero => cases h; exact hkm
          | succ i => exact s1.lot i j (by omega) h
        · cases i with
          | zero =>
            cases i' with
            | zero => rfl
            | succ i' => cases h; exact absurd rfl (hne i' _ (by omega) h').1
          | succ i =>
            cases i' with
            | zero => cases h'; exact absurd rfl (hne i _ (by omega) h).1
            | succ i' => rw [s1.inj i i' j (by omega) (by omega) h h']
        · cases i with
          | zero => cases h; exact k3
          | succ i => exact (hne i j (by omega) h).2
        · rw [wt_left, hws]
          show wv res (row :: rest) 0 k + wt rest.length (wv res rest) (fun i => σ i) = _
          have : wt rest.length (wv res rest) (fun i => σ i) = wt rest.length (wv res rest) σ := rfl
          rw [k4, hw0]
          have := free_sub k3 hkm
          omega
    · rw [wt_left, hws]
      have hv : Val rest.length res.length (fun i => σ (i + 1)) := ⟨fun i j hi h => hs.lot (i + 1) j (by omega) h, fun i i' j hi hi' h h' => by have := hs.inj (i + 1) (i' + 1) j (by omega) (by omega) h h'; omega⟩
      cases h0 : σ 0 with
      | none =>
        have := hN.le _ hv (fun i j hi h => hf (i + 1) j (by omega) h)
        show (0 : Int) + _ ≤ _
        omega
      | some k =>
        have hkm := hs.lot 0 k (by omega) h0
        have hkf := hf 0 k (by omega) h0
        have := (mostR_spec res rest (f - 2 ^ k)).le _ hv (fun i j hi h => by
          rw [bit_sub hkf, hf (i + 1) j (by omega) h]
          have : j ≠ k := fun e => by have := hs.inj (i + 1) 0 j (by omega) (by omega) h (e ▸ h0); omega
          simp [this])
        have h2 := b2 k (Nat.zero_le _) (by omega) hkf
        have := free_sub hkf hkm
        show wv res (row :: rest) 0 k + _ ≤ _
        rw [hw0]; omega
/-- all lots are free -/
theorem most_all (res : List Int) (rows : List (List Int)) : IsMax rows.length res.length (wv res rows) (mostR res rows (2 ^ res.length - 1) - sumR res) := by
  have hb : ∀ j, j < res.length → (2 ^ res.length - 1).testBit j = true := fun j hj => by rw [Nat.testBit_two_pow_sub_one]; simp [hj]
  have hR : freeR res (2 ^ res.length - 1) = sumR res := sumN_congr fun j hj => by rw [if_pos (hb j hj)]
  obtain ⟨⟨σ, a1, a2, a3⟩, b⟩ := mostR_spec res rows (2 ^ res.length - 1)
  rw [hR] at a3 b
  exact ⟨⟨σ, a1, a3⟩, fun τ h => b τ h (fun i j hi e => hb j (h.lot i j hi e))⟩
theorem most_best {res : List Int} {rows : List (List Int)} (h1 : nnL res) (h2 : ∀ r ∈ rows, nnL r) : mostR res rows (2 ^ res.length - 1) = (bestF res rows).2 := by
  have := (most_all res rows).uniq (best_spec h1 h2).2.2.2.1
  omega
/-! ### a lot once more -/
def withR (res : List Int) (k : Nat) : List Int := res ++ [res.getD k 0]
def withV (rows : List (List Int)) (k : Nat) : List (List Int) := rows.map (fun l => l ++ [l.getD k 0])
theorem with_w {res : List Int} {rows : List (List Int)} {k : Nat} (hr : ∀ r ∈ rows, r.length = res.length) (i j : Nat) (hi : i < rows.length) (hj : j < res.length + 1) : wv (withR res k) (withV rows k) i j = dup res.length k (wv res rows) i j := by
  have hx : ∀ l : List Int, l.length = res.length → (l ++ [l.getD k 0]).getD j 0 = l.getD (if j = res.length then k else j) 0 := by
    intro l hl
    rw [List.getD_eq_getElem?_getD, List.getElem?_append]
    by_cases h : j = res.length
    · rw [if_neg (by omega), if_pos h, h, hl]; simp
    · rw [if_pos (by omega), if_neg h, List.getD_eq_getElem?_getD]
  have hrow : (rows.map (fun l => l ++ [l.getD k 0])).getD i [] = (rows.getD i []) ++ [(rows.getD i []).getD k 0] := by
    rw [List.getD_eq_getElem?_getD, List.getElem?_map, List.getD_eq_getElem?_getD, List.getElem?_eq_getElem hi]; rfl
  have hlen : (rows.getD i []).length = res.length := by
    rw [List.getD_eq_getElem?_getD, List.getElem?_eq_getElem hi]; exact hr _ (List.getElem_mem _)
  unfold wv dup vv rv withV withR
  rw [hrow, hx _ hlen, hx _ rfl]
theorem with_len (res : List Int) (k : Nat) : (withR res k).length = res.length + 1 := by simp [withR]
theorem withV_len (rows : List (List Int)) (k : Nat) : (withV rows k).length = rows.length := by simp [withV]
theorem with_nn {res : List Int} {k : Nat} (h : nnL res) : nnL (withR res k) := by
  intro x hx
  rcases List.mem_append.1 hx with e | e
  · exact h x e
  · simp at e; rw [e]; have := getD_nn h k; rwa [List.getD_eq_getElem?_getD] at this
theorem withV_nn {rows : List (List Int)} {k : Nat} (h : ∀ r ∈ rows, nnL r) : ∀ r ∈ withV rows k, nnL r := by
  intro r hr
  obtain ⟨l, hl, e⟩ := List.mem_map.1 hr
  rw [← e]; exact with_nn (h l hl)
theorem sumR_with (res : List Int) (k : Nat) : sumR (withR res k) = sumR res + rv res k := by
  unfold sumR
  rw [with_len, sumN]
  have e : sumN res.length (rv (withR res k)) = sumN res.length (rv res) := sumN_congr fun j hj => by
    unfold rv withR; rw [List.getD_eq_getElem?_getD, List.getElem?_append, if_pos hj, List.getD_eq_getElem?_getD]
  rw [e]
  congr 1
  unfold rv withR
  rw [List.getD_eq_getElem?_getD, List.getElem?_append, if_neg (by omega)]; simp
/-- the price of a lot -/
def priceC (res : List Int) (rows : List (List Int)) (k : Nat) : Int := (bestF (withR res k) (withV rows k)).2 - (bestF res rows).2
theorem price_max {res : List Int} {rows : List (List Int)} (h1 : nnL res) (h2 : ∀ r ∈ rows, nnL r) (hr : ∀ r ∈ rows, r.length = res.length) (k : Nat) : IsMax rows.length (res.length + 1) (dup res.length k (wv res rows)) (priceC res rows k - rv res k + ((bestF res rows).2 - sumR res)) := by
  have h := (best_spec (with_nn (k := k) h1) (withV_nn (k := k) h2)).2.2.2.1
  rw [withV_len, with_len] at h
  have h3 := h.congr (fun i j hi hj => with_w hr i j hi hj)
  have e := sumR_with res k
  have : priceC res rows k - rv res k + ((bestF res rows).2 - sumR res) = (bestF (withR res k) (withV rows k)).2 - sumR (withR res k) := by unfold priceC; omega
  rw [this]; exact h3
def pricesL (res : List Int) (rows : List (List Int)) : List Int := (List.range res.length).map (priceC res rows)
end Am
namespace Go.Proofs.Ytehmifpofpifkaa
open Go.Sx Go.RowKit Am

theorem not_t {b : Bool} (h : (!b) = true) : b = false := by cases b <;> simp_all
theorem not_f {b : Bool} (h : (!b) = false) : b = true := by cases b <;> simp_all
def seek : List Int → Int → Int → Int
  | [], _, _ => -1
  | x :: l, n, i => if x = n then i else seek l n (i + 1)
theorem seek_drop (l : List Int) (n : Int) (k : Nat) (x : Int) (h : l[k]? = some x) : seek (l.drop k) n k = if x = n then (k : Int) else seek (l.drop (k + 1)) n ((k + 1 : Nat) : Int) := by
  obtain ⟨h1, h2⟩ := List.getElem?_eq_some_iff.1 h
  rw [List.drop_eq_getElem_cons h1, h2, seek]; rfl
def btw (lo n hi : Int) : Bool := decide (lo ≤ n) && decide (n ≤ hi)
theorem all_drop {α : Type} (p : α → Bool) (l : List α) (k : Nat) (x : α) (h : l[k]? = some x) : (l.drop k).all p = (p x && (l.drop (k + 1)).all p) := by
  obtain ⟨h1, h2⟩ := List.getElem?_eq_some_iff.1 h
  rw [List.drop_eq_getElem_cons h1, h2, List.all_cons]
theorem btw_t {lo n hi : Int} : btw lo n hi = true ↔ lo ≤ n ∧ n ≤ hi := by unfold btw; rw [Bool.and_eq_true, decide_eq_true_iff, decide_eq_true_iff]
theorem btw_f {lo n hi : Int} : btw lo n hi = false ↔ ¬ (lo ≤ n ∧ n ≤ hi) := by rw [← btw_t]; simp

abbrev encRi (r : RiseV) : List Value := [.int .i64 r.fr, .int .i64 r.by_]
abbrev encBi (b : BidV) : List Value := [.int .i64 b.who, .int .i64 b.way, .int .i64 b.most]
abbrev encLe (x : LeadV) : List Value := [.int .i64 x.who, .int .i64 x.limit, .int .i64 x.way, .int .i64 x.second, .int .i64 x.price]
/-! a lot -/
def stepOk (pr : Option Int) (r : RiseV) : Bool := btw 1 r.by_ 100000 && (match pr with | none => true | some q => btw (q + 1) r.fr 100000)
def ladG : Option Int → List RiseV → Bool
  | _, [] => true
  | pr, r :: l => stepOk pr r && ladG (some r.fr) l
def prevAt (lad : List RiseV) : Nat → Option Int
  | 0 => none
  | k + 1 => (lad[k]?).map (·.fr)
theorem ladG_drop (lad : List RiseV) (k : Nat) (r : RiseV) (h : lad[k]? = some r) : ladG (prevAt lad k) (lad.drop k) = (stepOk (prevAt lad k) r && ladG (prevAt lad (k + 1)) (lad.drop (k + 1))) := by
  obtain ⟨h1, h2⟩ := List.getElem?_eq_some_iff.1 h
  rw [List.drop_eq_getElem_cons h1, h2, ladG, prevAt, h]; rfl
def lotB (st rv : Int) (lad : List RiseV) : Bool := btw 1 st 100000 && btw 0 rv 100000 && btw 1 lad.length 8 && ((lad.getD 0 default).fr == 0) && ladG none lad
def lotE (st rv : Int) (lad : List RiseV) : Int := if lotB st rv lad = true then 0 else 60
def refOk (pr : Option Int) (r : RiseV) : Bool := btw 0 r.fr 100000 && btw 1 r.by_ 100000 && (match pr with | none => r.fr == 0 | some q => decide (q < r.fr))
def refG : Option Int → List RiseV → Bool
  | _, [] => true
  | pr, r :: l => refOk pr r && refG (some r.fr) l
theorem refG_drop (lad : List RiseV) (k : Nat) (r : RiseV) (h : lad[k]? = some r) : refG (prevAt lad k) (lad.drop k) = (refOk (prevAt lad k) r && refG (prevAt lad (k + 1)) (lad.drop (k + 1))) := by
  obtain ⟨h1, h2⟩ := List.getElem?_eq_some_iff.1 h
  rw [List.drop_eq_getElem_cons h1, h2, refG, prevAt, h]; rfl
theorem ref_step (q : Int) (h : 0 ≤ q) (r : RiseV) : refOk (some q) r = stepOk (some q) r := by
  unfold refOk stepOk btw
  simp only
  by_cases h1 : q < r.fr
  · have e1 : decide (q < r.fr) = true := by simpa
    have e2 : decide (q + 1 ≤ r.fr) = true := by simpa
    have e3 : decide (0 ≤ r.fr) = true := by simp; omega
    rw [e1, e2, e3]
    cases decide (r.fr ≤ 100000) <;> cases decide (1 ≤ r.by_) <;> cases decide (r.by_ ≤ 100000) <;> rfl
  · have e1 : decide (q < r.fr) = false := by simpa using h1
    have e2 : decide (q + 1 ≤ r.fr) = false := by simp; omega
    rw [e1, e2]; simp
theorem ref_lad : ∀ (l : List RiseV) (q : Int), 0 ≤ q → refG (some q) l = ladG (some q) l
  | [], _, _ => rfl
  | r :: l, q, h => by
    rw [refG, ladG, ref_step q h]
    cases hs : stepOk (some q) r with
    | false => rfl
    | true =>
      unfold stepOk at hs
      have := btw_t.1 (Bool.and_eq_true_iff.1 hs).2
      rw [ref_lad l r.fr (by omega)]
theorem ref_lot (lad : List RiseV) (h : 1 ≤ lad.length) : refG none lad = (((lad.getD 0 default).fr == 0) && ladG none lad) := by
  cases lad with
  | nil => simp at h
  | cons r l =>
    rw [refG, ladG]
    unfold refOk stepOk
    simp only [List.getD_cons_zero, Bool.and_true]
    by_cases h0 : r.fr = 0
    · have e0 : btw 0 r.fr 100000 = true := btw_t.2 (by omega)
      rw [e0, h0, ref_lad l 0 (Int.le_refl _)]; simp
    · have : (r.fr == 0) = false := by simpa using h0
      rw [this]; simp
def lotH (st rv : Int) (lad : List RiseV) : Bool := btw 1 st 100000 && btw 0 rv 100000 && btw 1 lad.length 8 && ((lad.getD 0 default).fr == 0)
theorem lotB_H (st rv : Int) (lad : List RiseV) : lotB st rv lad = (lotH st rv lad && ladG none lad) := rfl
theorem lotH_V (st rv : Int) (lad : List RiseV) : ((((!(decide (1 ≤ st) && decide (st ≤ 100000))) || !(decide (0 ≤ rv) && decide (rv ≤ 100000))) || !(decide ((1 : Int) ≤ lad.length) && decide ((lad.length : Int) ≤ 8))) || ((lad.getD (0 : Int).toNat default).fr != 0)) = !(lotH st rv lad) := by
  have e : ((lad.getD (0 : Int).toNat default).fr != 0) = !((lad.getD 0 default).fr == 0) := rfl
  rw [e, ← Bool.not_and, ← Bool.not_and, ← Bool.not_and]; rfl
theorem lotH_z {st rv : Int} {lad : List RiseV} (h : lotH st rv lad = true) : (1 ≤ lad.length ∧ lad.length ≤ 8) ∧ (lad.getD 0 default).fr = 0 := by
  unfold lotH at h
  simp only [Bool.and_eq_true, btw_t] at h
  exact ⟨by omega, by simpa using h.2⟩
theorem step_V (lad : List RiseV) (k : Nat) (r : RiseV) (hk : k ≤ lad.length) : ((!(decide (1 ≤ r.by_) && decide (r.by_ ≤ 100000))) || (decide (0 < (k : Int)) && !(decide ((lad.getD ((k : Int) - 1).toNat default).fr + 1 ≤ r.fr) && decide (r.fr ≤ 100000)))) = !(stepOk (prevAt lad k) r) := by
  unfold stepOk
  cases k with
  | zero => unfold btw; simp [prevAt]
  | succ k =>
    have e1 : (((k + 1 : Nat) : Int) - 1).toNat = k := by omega
    have e2 : decide ((0 : Int) < ((k + 1 : Nat) : Int)) = true := decide_eq_true (by omega)
    have e3 : prevAt lad (k + 1) = some (lad.getD k default).fr := by
      rw [prevAt, List.getD_eq_getElem?_getD, List.getElem?_eq_getElem (by omega)]; rfl
    rw [e1, e2, e3, Bool.true_and, ← Bool.not_and]; rfl
theorem step_fr {lad : List RiseV} {k : Nat} {r : RiseV} (hx : lad[k]? = some r) (h : stepOk (prevAt lad k) r = true) (hpv : ∀ j, j < k → 0 ≤ (lad.getD j default).fr ∧ (lad.getD j default).fr ≤ 100000) (hz : (lad.getD 0 default).fr = 0) : 0 ≤ r.fr ∧ r.fr ≤ 100000 := by
  have hr : lad.getD k default = r := by rw [List.getD_eq_getElem?_getD, hx]; rfl
  cases k with
  | zero => rw [hr] at hz; omega
  | succ k =>
    have hlt := (List.getElem?_eq_some_iff.1 hx).1
    have e3 : prevAt lad (k + 1) = some (lad.getD k default).fr := by
      rw [prevAt, List.getD_eq_getElem?_getD, List.getElem?_eq_getElem (by omega)]; rfl
    rw [e3] at h
    unfold stepOk at h
    have h1 := btw_t.1 (Bool.and_eq_true_iff.1 h).2
    have h2 := hpv k (by omega)
    omega
theorem refStep_V (lad : List RiseV) (k : Nat) (r : RiseV) (hk : k ≤ lad.length) (ok : Bool) : ((((ok && (decide (0 ≤ r.fr) && decide (r.fr ≤ 100000))) && (decide (1 ≤ r.by_) && decide (r.by_ ≤ 100000))) && (decide (0 < (k : Int)) || (r.fr == 0))) && (((k : Int) == 0) || decide ((lad.getD ((k : Int) - 1).toNat default).fr < r.fr))) = (ok && refOk (prevAt lad k) r) := by
  unfold refOk
  cases k with
  | zero => simp [prevAt, btw, Bool.and_assoc]
  | succ k =>
    have e1 : (((k + 1 : Nat) : Int) - 1).toNat = k := by omega
    have e2 : decide ((0 : Int) < ((k + 1 : Nat) : Int)) = true := decide_eq_true (by omega)
    have e4 : (((k + 1 : Nat) : Int) == 0) = false := beq_eq_false_iff_ne.2 (by omega)
    have e3 : prevAt lad (k + 1) = some (lad.getD k default).fr := by
      rw [prevAt, List.getD_eq_getElem?_getD, List.getElem?_eq_getElem (by omega)]; rfl
    rw [e1, e2, e3, e4]
    simp [btw, Bool.and_assoc]
theorem ref_all (st rv : Int) (lad : List RiseV) : ((((decide (1 ≤ st) && decide (st ≤ 100000)) && (decide (0 ≤ rv) && decide (rv ≤ 100000))) && (decide ((1 : Int) ≤ lad.length) && decide ((lad.length : Int) ≤ 8))) && refG none lad) = lotB st rv lad := by
  unfold lotB btw
  by_cases h : 1 ≤ lad.length
  · rw [ref_lot lad h]; simp only [Bool.and_assoc]
  · have : decide ((1 : Int) ≤ lad.length) = false := by simp; omega
    rw [this]; simp
theorem getD_mem {α : Type} {l : List α} {k : Nat} {d : α} (h : k < l.length) : l.getD k d ∈ l := by
  rw [List.getD_eq_getElem?_getD, List.getElem?_eq_getElem h]; exact List.getElem_mem _
structure LotOk (st rv : Int) (lad : List RiseV) : Prop where
  st : 1 ≤ st ∧ st ≤ 100000
  rv : 0 ≤ rv ∧ rv ≤ 100000
  len : lad.length ≤ 8
  lad : LadOk lad
theorem ladG_inc : ∀ (lad : List RiseV) (pr : Option Int), ladG pr lad = true → (∀ r ∈ lad, 1 ≤ r.by_ ∧ r.by_ ≤ 100000) ∧ (∀ i, i + 1 < lad.length → (lad.getD i default).fr < (lad.getD (i + 1) default).fr)
  | [], _, _ => ⟨fun _ h => (by cases h), fun i h => (by simp at h)⟩
  | r :: l, pr, h => by
    rw [ladG, Bool.and_eq_true] at h
    obtain ⟨h1, h2⟩ := h
    obtain ⟨a, b⟩ := ladG_inc l _ h2
    have hb := btw_t.1 (Bool.and_eq_true_iff.1 h1).1
    refine ⟨fun q hq => ?_, fun i hi => ?_⟩
    · rcases List.mem_cons.1 hq with e | e
      · rw [e]; exact hb
      · exact a q e
    · cases i with
      | zero =>
        cases l with
        | nil => simp at hi
        | cons s l =>
          rw [ladG, Bool.and_eq_true] at h2
          have := btw_t.1 (Bool.and_eq_true_iff.1 h2.1).2
          show r.fr < s.fr
          omega
      | succ i => exact b i (by simpa using hi)
theorem lot_ok {st rv : Int} {lad : List RiseV} (h : lotB st rv lad = true) : LotOk st rv lad := by
  unfold lotB at h
  simp only [Bool.and_eq_true, btw_t] at h
  obtain ⟨⟨⟨⟨h1, h2⟩, h3⟩, h4⟩, h5⟩ := h
  obtain ⟨a, b⟩ := ladG_inc lad none h5
  exact ⟨h1, h2, by omega, ⟨by omega, by simpa using h4, b, a⟩⟩
theorem lotE_0 {st rv : Int} {lad : List RiseV} (h : (lotE st rv lad != 0) = false) : lotB st rv lad = true := by
  unfold lotE at h
  cases hb : lotB st rv lad with
  | true => rfl
  | false => rw [hb] at h; simp at h
theorem lotE_no {st rv : Int} {lad : List RiseV} (h : (lotE st rv lad != 0) = true) : lotB st rv lad = false := by
  unfold lotE at h
  cases hb : lotB st rv lad with
  | true => rw [hb] at h; simp at h
  | false => rfl
/-- the step from p at rung a of the ladder -/
theorem at_next {lad : List RiseV} (h : LadOk lad) {a : Nat} {p : Int} (h1 : a < lad.length) (h2 : (lad.getD a default).fr ≤ p) (h3 : ¬ (a + 1 < lad.length ∧ (lad.getD (a + 1) default).fr ≤ p)) : p + (lad.getD a default).by_ = nx lad p := by
  unfold nx
  rw [byR_at h ⟨h1, h2, fun h4 => by omega⟩]
theorem rg_get {lad : List RiseV} (h : LadOk lad) {st p : Int} {k : Nat} (h0 : 0 ≤ p) (hp : p ≤ 100000) (hd : (rgL lad st).drop k = rgL lad p) : (rgL lad st)[k]? = some p ∧ (rgL lad st).drop (k + 1) = rgL lad (nx lad p) := by
  rw [rgL_step h h0, if_pos hp] at hd
  refine ⟨?_, ?_⟩
  · have := congrArg (fun l => l[0]?) hd
    simpa using this
  · have := congrArg List.tail hd
    simpa using this
theorem rg_end {lad : List RiseV} (h : LadOk lad) {st p : Int} {k : Nat} (h0 : 0 ≤ p) (hp : ¬ p ≤ 100000) (hk : k ≤ (rgL lad st).length) (hd : (rgL lad st).drop k = rgL lad p) : k = (rgL lad st).length := by
  rw [rgL_step h h0, if_neg hp] at hd
  have := congrArg List.length hd
  simp at this
  omega
theorem rungF_drop (n out : Int) (rs : List Int) (k : Nat) (p : Int) (h : rs[k]? = some p) : rungF n (rs.drop k) out = if n < p then out else rungF n (rs.drop (k + 1)) p := by
  obtain ⟨h1, h2⟩ := List.getElem?_eq_some_iff.1 h
  rw [List.drop_eq_getElem_cons h1, h2, rungF]
theorem behF_drop (n : Int) (rs : List Int) (k : Nat) (p : Int) (h : rs[k]? = some p) : behF n (rs.drop k) = if n < p then p else behF n (rs.drop (k + 1)) := by
  obtain ⟨h1, h2⟩ := List.getElem?_eq_some_iff.1 h
  rw [List.drop_eq_getElem_cons h1, h2, behF]
def TB (J Jx : List Fact → Nat → World → Prop) (k : Nat) (b : Bool) (W : World) : Prop := if b = true then J [] k W else Jx [] k W
def rungR (st : Int) (lad : List RiseV) (n : Int) : Int := rungF n (rgL lad st) 0
/-- the reference's search for a rung -/
def refRung (st : Int) (lad : List RiseV) (n : Int) : Int := if n < st then 0 else refR lad (min n 100000) 100001 st
theorem refRung_eq {st rv : Int} {lad : List RiseV} (h : LotOk st rv lad) (n : Int) : refRung st lad n = rungR st lad n := by
  unfold refRung rungR
  by_cases hn : n < st
  · rw [if_pos hn, rgL_step h.lad (by have := h.st; omega), if_pos h.st.2, rungF, if_pos hn]
  · rw [if_neg hn]
    exact (refR_rung h.lad n 100001 st h.st.1 (by have := h.st; omega) (by have := h.st; omega)).1
theorem rung_bd {st rv : Int} {lad : List RiseV} (h : LotOk st rv lad) (n : Int) : 0 ≤ rungR st lad n ∧ rungR st lad n ≤ 100000 := by
  have ha := rgL_asc h.lad h.st.1
  unfold rungR
  rcases rungF_spec (n := n) _ 0 ha with ⟨e, _⟩ | ⟨a, _, _⟩
  · rw [e]; omega
  · have := ha.pos _ a; omega
theorem beh_bd {st rv : Int} {lad : List RiseV} (h : LotOk st rv lad) (n : Int) : 0 ≤ behF n (rgL lad st) ∧ behF n (rgL lad st) ≤ 100000 := by
  have ha := rgL_asc h.lad h.st.1
  rcases behF_spec (n := n) _ ha with ⟨e, _⟩ | ⟨a, _, _⟩
  · rw [e]; omega
  · have := ha.pos _ a; omega
theorem refR_s (lad : List RiseV) (m : Int) (k : Nat) (x : Int) : refR lad m (k + 1) x = if nx lad x ≤ m then refR lad m k (nx lad x) else x := rfl
theorem refR_fuel {lad : List RiseV} (h : LadOk lad) (m : Int) : ∀ (k : Nat) (x : Int), 0 ≤ x → m ≤ x + k → refR lad m (k + 1) x = refR lad m k x
  | 0, x, h0, hk => by
    have := byR_bd h h0
    rw [refR_s, if_neg (by unfold nx; omega)]; rfl
  | k + 1, x, h0, hk => by
    have := byR_bd h h0
    rw [refR_s lad m (k + 1) x, refR_s lad m k x]
    by_cases hn : nx lad x ≤ m
    · rw [if_pos hn, if_pos hn, refR_fuel h m k _ (by unfold nx; omega) (by unfold nx; omega)]
    · rw [if_neg hn, if_neg hn]
theorem resR_s (lad : List RiseV) (r : Int) (k : Nat) (x : Int) : resR lad r (k + 1) x = if x < r then resR lad r k (nx lad x) else x := rfl
theorem resR_fuel {lad : List RiseV} (h : LadOk lad) (r : Int) : ∀ (k : Nat) (x : Int), 0 ≤ x → r ≤ x + k → resR lad r (k + 1) x = resR lad r k x
  | 0, x, h0, hk => by rw [resR_s, if_neg (by omega)]; rfl
  | k + 1, x, h0, hk => by
    have := byR_bd h h0
    rw [resR_s lad r (k + 1) x, resR_s lad r k x]
    by_cases hn : x < r
    · rw [if_pos hn, if_pos hn, resR_fuel h r k _ (by unfold nx; omega) (by unfold nx; omega)]
    · rw [if_neg hn, if_neg hn]
theorem refR_step {lad : List RiseV} (h : LadOk lad) {m x : Int} (h0 : 0 ≤ x) (hm : m ≤ 100000) : refR lad m 100001 x = if nx lad x ≤ m then refR lad m 100001 (nx lad x) else x := by
  have := byR_bd h h0
  have hn : nx lad x = x + byR lad x := rfl
  rw [refR_s lad m 100000 x, refR_fuel h m 100000 (nx lad x) (by omega) (by omega)]
theorem resR_step {lad : List RiseV} (h : LadOk lad) {m x : Int} (h0 : 0 ≤ x) (hm : m ≤ 100000) : resR lad m 100001 x = if x < m then resR lad m 100001 (nx lad x) else x := by
  have := byR_bd h h0
  have hn : nx lad x = x + byR lad x := rfl
  rw [resR_s lad m 100000 x, resR_fuel h m 100000 (nx lad x) (by omega) (by omega)]
/-- the least rung that a lot is sold at -/
def leastR (st rv : Int) (lad : List RiseV) : Int := behF (rv - 1) (rgL lad st)
theorem leastR_eq {st rv : Int} {lad : List RiseV} (h : LotOk st rv lad) : (if 100000 < resR lad rv 100001 st then 0 else resR lad rv 100001 st) = leastR st rv lad :=
  resR_beh h.lad rv h.rv.2 100001 st h.st.1 (by have := h.st; omega)
/-- Rung and Next -/
def RungV (st rv : Int) (lad : List RiseV) (n : Int) : Int := if lotB st rv lad = true then rungR st lad n else 0
def RungE (st rv : Int) (lad : List RiseV) (n : Int) : Int := if lotB st rv lad = true then (if 0 < rungR st lad n then 0 else 4) else 60
def NextV (st rv : Int) (lad : List RiseV) (n : Int) : Int := if lotB st rv lad = true ∧ 0 < rungR st lad n ∧ rungR st lad n = n then behF n (rgL lad st) else 0
def NextE (st rv : Int) (lad : List RiseV) (n : Int) : Int := if lotB st rv lad = true then (if 0 < rungR st lad n ∧ rungR st lad n = n then (if 0 < behF n (rgL lad st) then 0 else 4) else 7) else 60
theorem rungE_60 {st rv : Int} {lad : List RiseV} {n : Int} (h : (RungE st rv lad n == 60) = true) : lotB st rv lad = false := by
  unfold RungE at h
  cases hb : lotB st rv lad with
  | false => rfl
  | true => rw [hb, if_pos rfl] at h; split at h <;> simp at h
theorem rungE_ok {st rv : Int} {lad : List RiseV} {n : Int} (h : (RungE st rv lad n == 60) = false) : lotB st rv lad = true := by
  unfold RungE at h
  cases hb : lotB st rv lad with
  | true => rfl
  | false => rw [hb] at h; simp at h
theorem next_no {st rv : Int} {lad : List RiseV} {n : Int} (hb : lotB st rv lad = true) (h : ((RungE st rv lad n != 0) || (RungV st rv lad n != n)) = true) : ¬ (0 < rungR st lad n ∧ rungR st lad n = n) := by
  unfold RungE RungV at h
  rw [hb, if_pos rfl, if_pos rfl] at h
  rintro ⟨h1, h2⟩
  rw [if_pos h1, h2] at h
  simp at h
theorem next_yes {st rv : Int} {lad : List RiseV} {n : Int} (hb : lotB st rv lad = true) (h : ((RungE st rv lad n != 0) || (RungV st rv lad n != n)) = false) : 0 < rungR st lad n ∧ rungR st lad n = n := by
  unfold RungE RungV at h
  rw [hb, if_pos rfl, if_pos rfl, Bool.or_eq_false_iff] at h
  obtain ⟨h1, h2⟩ := h
  refine ⟨?_, by simpa using h2⟩
  by_cases hp : 0 < rungR st lad n
  · exact hp
  · rw [if_neg hp] at h1; simp at h1
theorem rnext_no {st rv : Int} {lad : List RiseV} {n : Int} (hok : LotOk st rv lad) (h : ((decide (100000 < n) || (rungR st lad n != n)) || (n == 0)) = true) : ¬ (0 < rungR st lad n ∧ rungR st lad n = n) := by
  have := rung_bd hok n
  simp only [Bool.or_eq_true, decide_eq_true_eq, bne_iff_ne, beq_iff_eq] at h
  omega
theorem rnext_yes {st rv : Int} {lad : List RiseV} {n : Int} (hok : LotOk st rv lad) (h : ((decide (100000 < n) || (rungR st lad n != n)) || (n == 0)) = false) : 0 < rungR st lad n ∧ rungR st lad n = n := by
  have := rung_bd hok n
  simp only [Bool.or_eq_false_iff, decide_eq_false_iff_not, bne_eq_false_iff_eq, beq_eq_false_iff_ne] at h
  omega
theorem next_nx {st rv : Int} {lad : List RiseV} (h : LotOk st rv lad) {n : Int} (h0 : 0 < rungR st lad n) (h1 : rungR st lad n = n) : behF n (rgL lad st) = if nx lad n ≤ 100000 then nx lad n else 0 := by
  refine behL_next h.lad h.st.1 ?_
  rcases rungF_spec (n := n) (rgL lad st) 0 (rgL_asc h.lad h.st.1) with ⟨e, _⟩ | ⟨a, _, _⟩
  · unfold rungR at h0; rw [e] at h0; omega
  · unfold rungR at h1; rw [h1] at a; exact a
end Go.Proofs.Ytehmifpofpifkaa
namespace Go.Sx
open Go.RowKit
theorem y_eqlNil {C : Cx} {L : Regs} {O S : List Fact} {dst : Option Tmp} {ty : TypeId} {pos : String} {aft : Array Edge} {gu : Option (Nat × Bool)} {t t' : TypeId} {x y : Operand} {e : TypeId} {A : Option Addr} {n c : Nat} (ht : C.P.underlying t = some (.slice e)) (hx : val L x = some (.slice A n c)) (hy : val L y = some (.slice none 0 0)) :
    Yi C ⟨dst, .binOp .eql t x y t', ty, pos, aft, gu⟩ L O S (.bool A.isNone) :=
  yi_val (by intro c h; cases h) fun a w hr _ => by
    have h := run_equal_slice_nil w t e A n c ht
    have h2 : (binOp .eql t (.slice A n c) (.slice none 0 0)).run C.P w = .ok (.bool A.isNone) w := by
      simp only [binOp]
      simp [h]
    simp [execOp, hr.val hx, hr.val hy, eqGuard, h2]
/-- One less than a number that is not 0. -/
theorem y_pred {C : Cx} {L : Regs} {O S : List Fact} {dst : Option Tmp} {ty : TypeId} {pos : String} {aft : Array Edge} {gu : Option (Nat × Bool)} {t t' : TypeId} {x y : Operand} {m : Nat} (hx : val L x = some (.int .i64 (m : Nat))) (hy : val L y = some (.int .i64 1)) (h1 : 1 ≤ m) (h : m ≤ 9223372036854775807) :
    Yi C ⟨dst, .binOp .sub t x y t', ty, pos, aft, gu⟩ L O S (.int .i64 ((m - 1 : Nat) : Int)) := by
  have := y_sub (C := C) (O := O) (S := S) (dst := dst) (t := t) (t' := t') (ty := ty) (pos := pos) (aft := aft) (gu := gu) hx hy (by omega)
  rwa [show ((m : Nat) : Int) - 1 = ((m - 1 : Nat) : Int) by omega] at this
end Go.Sx
namespace Am
def popc (n : Nat) : Nat := (List.range 8).countP fun i => n.testBit i
def cntb (past : List Nat) (i : Nat) : Nat := past.countP fun n => n.testBit i
def ringB (past : List Nat) (few s : Nat) : Bool := (List.range 8).all (fun i => !s.testBit i || decide (few ≤ cntb past i)) && past.all (fun n => decide (popc (n &&& s) ≤ 1)) && decide (2 ≤ popc s)
def ringL (past : List Nat) (few : Nat) : List Nat := (List.range 256).filter (ringB past few)
/-- a is within another set of the list. -/
def inner (l : List Nat) (a : Nat) : Bool := l.any fun b => decide (a ≠ b) && decide (a &&& b = a)
def topL (l : List Nat) : List Nat := l.filter fun a => !inner l a
/-- The order: greater sets first, then by number. -/
def cmpR (x y : Nat) : Int := if (popc y : Int) - popc x ≠ 0 then (popc y : Int) - popc x else (x : Int) - y
def befR (x y : Nat) : Bool := decide (popc y < popc x) || (decide (popc y = popc x) && decide (x < y))
theorem befR_iff (x y : Nat) : befR x y = true ↔ popc y < popc x ∨ (popc y = popc x ∧ x < y) := by
  unfold befR; simp
theorem cmpR_lt (x y : Nat) : decide (cmpR x y < 0) = befR x y := by
  rw [Bool.eq_iff_iff, befR_iff, decide_eq_true_iff, cmpR]
  split <;> omega
theorem popc_le (n : Nat) : popc n ≤ 8 := by
  have := List.countP_le_length (p := fun i => n.testBit i) (l := List.range 8)
  simpa [popc] using this
/-- Bits of both. -/
theorem popc_and (a b : Nat) : popc (a &&& b) = (List.range 8).countP fun i => a.testBit i && b.testBit i := by
  unfold popc; congr 1; funext i; rw [Nat.testBit_and]
theorem countP_sub {α : Type} (p q : α → Bool) : ∀ (l : List α), l.countP (fun x => p x && q x) = l.countP p → ∀ x ∈ l, p x = true → q x = true
  | [], _, x, hx, _ => by cases hx
  | y :: l, h, x, hx, hp => by
    have hle : l.countP (fun x => p x && q x) ≤ l.countP p := List.countP_mono_left (fun z _ hz => by simp only [Bool.and_eq_true] at hz; exact hz.1)
    rw [List.countP_cons, List.countP_cons] at h
    rcases List.mem_cons.1 hx with rfl | hx
    · cases hq : q x with
      | true => rfl
      | false => rw [hp, hq] at h; simp at h; omega
    · refine countP_sub p q l ?_ x hx hp
      cases hpy : p y <;> cases hqy : q y <;> rw [hpy, hqy] at h <;> simp at h <;> omega
theorem and_self_of_bits {a b : Nat} (ha : a < 256) (h : ∀ i, i < 8 → a.testBit i = true → b.testBit i = true) : a &&& b = a := by
  apply Nat.eq_of_testBit_eq
  intro i
  rw [Nat.testBit_and]
  cases hi : a.testBit i with
  | false => rfl
  | true =>
    have h8 : i < 8 := by
      by_cases h8 : i < 8
      · exact h8
      · rw [Nat.testBit_lt_two_pow (Nat.lt_of_lt_of_le ha (Nat.pow_le_pow_right (n := 2) (by decide) (show 8 ≤ i by omega)))] at hi; cases hi
    rw [h i h8 hi]; rfl
theorem popc_and_le (a b : Nat) : popc (a &&& b) ≤ popc a := by
  rw [popc_and]; exact List.countP_mono_left (fun z _ hz => by simp only [Bool.and_eq_true] at hz; exact hz.1)
theorem and_comm' (a b : Nat) : a &&& b = b &&& a := Nat.and_comm a b
theorem sub_of_popc {a b : Nat} (ha : a < 256) (h : popc (a &&& b) = popc a) : a &&& b = a := by
  rw [popc_and] at h
  exact and_self_of_bits ha (fun i hi hb => countP_sub (fun i => a.testBit i) (fun i => b.testBit i) _ h i (by simpa using hi) hb)
theorem popc_of_sub {a b : Nat} (h : a &&& b = a) : popc (a &&& b) = popc a := by rw [h]
theorem popc_lt {a b : Nat} (hb : b < 256) (h : a &&& b = a) (hne : a ≠ b) : popc a < popc b := by
  have h1 : popc a ≤ popc b := by rw [← h, and_comm']; exact popc_and_le b a
  rcases Nat.lt_or_ge (popc a) (popc b) with h2 | h2
  · exact h2
  · exfalso; apply hne
    have h3 : popc (b &&& a) = popc b := by rw [and_comm', h]; omega
    have := sub_of_popc hb h3
    rw [and_comm', h] at this; exact this
theorem and_trans' {a b c : Nat} (h1 : a &&& b = a) (h2 : b &&& c = b) : a &&& c = a := by
  rw [← h1, Nat.and_assoc, h2]
/-- Every set that counts, greatest first. -/
def szL (k : Nat) : List Nat := (List.range 256).filter fun s => popc s == k
def allL : List Nat := [8, 7, 6, 5, 4, 3, 2].flatMap szL
def stpR (ok : Nat → Bool) (out : List Nat) (s : Nat) : List Nat := if (ok s && !out.any fun b => decide (popc (s &&& b) = popc s)) = true then out ++ [s] else out
theorem mem_szL {k s : Nat} : s ∈ szL k ↔ s < 256 ∧ popc s = k := by unfold szL; simp
theorem mem_allL {s : Nat} : s ∈ allL ↔ s < 256 ∧ 2 ≤ popc s := by
  unfold allL
  rw [List.mem_flatMap]
  constructor
  · rintro ⟨k, hk, hs⟩
    rw [mem_szL] at hs
    obtain ⟨h1, rfl⟩ := hs
    refine ⟨h1, ?_⟩
    simp only [List.mem_cons, List.not_mem_nil, or_false] at hk
    omega
  · rintro ⟨h1, h2⟩
    refine ⟨popc s, ?_, mem_szL.2 ⟨h1, rfl⟩⟩
    have := popc_le s
    simp only [List.mem_cons, List.not_mem_nil, or_false]
    omega
theorem szL_pw (k : Nat) : (szL k).Pairwise fun x y => befR x y = true := by
  have h := (List.pairwise_lt_range (n := 256)).filter (fun s => popc s == k)
  refine List.Pairwise.imp_of_mem ?_ h
  intro x y hx hy hxy
  have h1 := (mem_szL.1 hx).2
  have h2 := (mem_szL.1 hy).2
  rw [befR_iff]; omega
theorem allL_pw : allL.Pairwise fun x y => befR x y = true := by
  unfold allL
  rw [List.pairwise_flatMap]
  refine ⟨fun k _ => szL_pw k, ?_⟩
  have h7 : [8, 7, 6, 5, 4, 3, 2].Pairwise (fun a b : Nat => b < a) := by decide
  refine h7.imp ?_
  intro a b hab x hx y hy
  rw [mem_szL] at hx hy
  rw [befR_iff]; omega
/-- Chosen: in the list's rule and within no other that is. -/
def topB (ok : Nat → Bool) (s : Nat) : Bool := ok s && (List.range 256).all fun b => !(ok b && decide (s ≠ b) && decide (s &&& b = s))
theorem topB_iff {ok : Nat → Bool} {s : Nat} : topB ok s = true ↔ ok s = true ∧ ∀ b, b < 256 → ok b = true → s ≠ b → s &&& b ≠ s := by
  unfold topB
  simp only [Bool.and_eq_true, List.all_eq_true, List.mem_range, Bool.not_eq_true', Bool.and_eq_false_iff, decide_eq_false_iff_not]
  constructor
  · rintro ⟨h1, h2⟩
    refine ⟨h1, fun b hb hob hne => ?_⟩
    rcases h2 b hb with (h | h) | h
    · rw [hob] at h; cases h
    · exact absurd hne h
    · exact h
  · rintro ⟨h1, h2⟩
    refine ⟨h1, fun b hb => ?_⟩
    cases hob : ok b with
    | false => exact .inl (.inl rfl)
    | true =>
      by_cases hne : s = b
      · exact .inl (.inr (fun h => h hne))
      · exact .inr (h2 b hb hob hne)
theorem exists_top (ok : Nat → Bool) : ∀ (d s : Nat), s < 256 → ok s = true → 8 - popc s ≤ d → ∃ t, t < 256 ∧ topB ok t = true ∧ s &&& t = s
  | 0, s, hs, ho, hd => by
    refine ⟨s, hs, topB_iff.2 ⟨ho, fun b hb _ hne h => ?_⟩, Nat.and_self s⟩
    have := popc_lt hb h hne
    have := popc_le b
    omega
  | d + 1, s, hs, ho, hd => by
    cases ht : topB ok s with
    | true => exact ⟨s, hs, ht, Nat.and_self s⟩
    | false =>
      have : ¬ (ok s = true ∧ ∀ b, b < 256 → ok b = true → s ≠ b → s &&& b ≠ s) := fun h => by rw [topB_iff.2 h] at ht; cases ht
      have : ∃ b, b < 256 ∧ ok b = true ∧ s ≠ b ∧ s &&& b = s := by
        apply Classical.byContradiction
        intro hn
        exact this ⟨ho, fun b hb hob hne he => hn ⟨b, hb, hob, hne, he⟩⟩
      obtain ⟨b, hb, hob, hne, he⟩ := this
      have hlt := popc_lt hb he hne
      obtain ⟨t, ht1, ht2, ht3⟩ := exists_top ok d b hb hob (by omega)
      exact ⟨t, ht1, ht2, and_trans' he ht3⟩
theorem stpR_fold (ok : Nat → Bool) (hok : ∀ s, ok s = true → 2 ≤ popc s) : ∀ (N M : List Nat), M ++ N = allL → N.foldl (stpR ok) (M.filter (topB ok)) = allL.filter (topB ok)
  | [], M, h => by rw [List.append_nil] at h; rw [h]; rfl
  | s :: N, M, h => by
    rw [List.foldl_cons]
    have e : stpR ok (M.filter (topB ok)) s = (M ++ [s]).filter (topB ok) := by
      have hsl : s ∈ allL := by rw [← h]; simp
      obtain ⟨hs, h2⟩ := mem_allL.1 hsl
      have hpw := allL_pw
      rw [← h, List.pairwise_append] at hpw
      obtain ⟨_, hpN, hMN⟩ := hpw
      rw [List.filter_append]
      cases ht : topB ok s with
      | true =>
        obtain ⟨ho, hmax⟩ := topB_iff.1 ht
        have hno : ((M.filter (topB ok)).any fun b => decide (popc (s &&& b) = popc s)) = false := by
          rw [List.any_eq_false]
          intro b hb
          obtain ⟨hbM, hbt⟩ := List.mem_filter.1 hb
          have hbl : b ∈ allL := by rw [← h]; simp [hbM]
          obtain ⟨hb2, _⟩ := mem_allL.1 hbl
          have hbs := hMN b hbM s (by simp)
          have hne : s ≠ b := by rintro rfl; rw [befR_iff] at hbs; omega
          rw [decide_eq_true_iff]
          exact fun he => hmax b hb2 (topB_iff.1 hbt).1 hne (sub_of_popc hs he)
        unfold stpR
        rw [ho, hno]
        simp [ht]
      | false =>
        have hst : ok s = true → ((M.filter (topB ok)).any fun b => decide (popc (s &&& b) = popc s)) = true := by
          intro ho
          obtain ⟨t, ht1, ht2, ht3⟩ := exists_top ok 8 s hs ho (by omega)
          have hne : s ≠ t := by rintro rfl; rw [ht] at ht2; cases ht2
          have hlt := popc_lt ht1 ht3 hne
          have htl : t ∈ allL := mem_allL.2 ⟨ht1, by omega⟩
          rw [← h] at htl
          have htM : t ∈ M := by
            rcases List.mem_append.1 htl with h1 | h1
            · exact h1
            · rcases List.mem_cons.1 h1 with h1 | h1
              · exact absurd h1.symm hne
              · have := (List.pairwise_cons.1 hpN).1 t h1
                rw [befR_iff] at this; omega
          rw [List.any_eq_true]
          exact ⟨t, List.mem_filter.2 ⟨htM, ht2⟩, by rw [ht3]; simp⟩
        unfold stpR
        cases ho : ok s with
        | false => simp [ht]
        | true => rw [hst ho]; simp [ht]
    rw [e]
    exact stpR_fold ok hok N (M ++ [s]) (by simp [h])
theorem topL_mem {ok : Nat → Bool} {s : Nat} : s ∈ topL ((List.range 256).filter ok) ↔ s < 256 ∧ topB ok s = true := by
  unfold topL
  rw [List.mem_filter, List.mem_filter, List.mem_range, topB_iff]
  have hi : (!inner ((List.range 256).filter ok) s) = true ↔ ∀ b, b < 256 → ok b = true → s ≠ b → s &&& b ≠ s := by
    rw [Bool.not_eq_true', inner, List.any_eq_false]
    constructor
    · intro h b hb ho hne he
      exact h b (List.mem_filter.2 ⟨by simpa using hb, ho⟩) (by simp [hne, he])
    · intro h b hb hh
      obtain ⟨h1, h2⟩ := List.mem_filter.1 hb
      simp only [Bool.and_eq_true, decide_eq_true_iff] at hh
      exact h b (by simpa using h1) h2 hh.1 hh.2
  rw [hi]
  constructor
  · rintro ⟨⟨a, b⟩, c⟩; exact ⟨a, b, c⟩
  · rintro ⟨a, b, c⟩; exact ⟨⟨a, b⟩, c⟩
/-- Going down the sizes finds the sorted list of the greatest sets. -/
theorem refR_eq (ok : Nat → Bool) (hok : ∀ s, ok s = true → 2 ≤ popc s) : allL.foldl (stpR ok) [] = (topL ((List.range 256).filter ok)).mergeSort fun x y => !befR y x := by
  have h0 := stpR_fold ok hok allL [] (List.nil_append _)
  rw [List.filter_nil] at h0
  rw [h0]
  have hpw : (allL.filter (topB ok)).Pairwise fun x y => befR x y = true := allL_pw.filter _
  have hs1 : (allL.filter (topB ok)).Pairwise fun x y => (!befR y x) = true := hpw.imp (fun {x y} h => by
    rw [befR_iff] at h
    cases hb : befR y x with
    | false => rfl
    | true => rw [befR_iff] at hb; omega)
  have hs2 := List.pairwise_mergeSort (le := fun x y => !befR y x) (fun a b c h1 h2 => by
      have f1 : befR b a = false := by simpa using h1
      have f2 : befR c b = false := by simpa using h2
      show (!befR c a) = true
      cases hb : befR c a with
      | false => rfl
      | true =>
        rw [befR_iff] at hb
        have n1 : ¬ (popc a < popc b ∨ (popc a = popc b ∧ b < a)) := fun h => by rw [(befR_iff b a).2 h] at f1; cases f1
        have n2 : ¬ (popc b < popc c ∨ (popc b = popc c ∧ c < b)) := fun h => by rw [(befR_iff c b).2 h] at f2; cases f2
        omega) (fun a b => by
      cases h1 : befR b a <;> cases h2 : befR a b <;> try rfl
      rw [befR_iff] at h1 h2; omega) (topL ((List.range 256).filter ok))
  refine List.Perm.eq_of_pairwise (le := fun x y => (!befR y x) = true) ?_ hs1 hs2 ?_
  · intro a b _ _ h1 h2
    have f1 : befR b a = false := by simpa using h1
    have f2 : befR a b = false := by simpa using h2
    have n1 : ¬ (popc a < popc b ∨ (popc a = popc b ∧ b < a)) := fun h => by rw [(befR_iff b a).2 h] at f1; cases f1
    have n2 : ¬ (popc b < popc a ∨ (popc b = popc a ∧ a < b)) := fun h => by rw [(befR_iff a b).2 h] at f2; cases f2
    omega
  · refine List.Perm.trans ?_ (List.mergeSort_perm ..).symm
    have nd1 : (allL.filter (topB ok)).Nodup := hpw.imp (fun {x y} h he => by subst he; rw [befR_iff] at h; omega)
    have nd2 : (topL ((List.range 256).filter ok)).Nodup := (List.nodup_range.filter _).filter _
    rw [List.perm_ext_iff_of_nodup nd1 nd2]
    intro s
    rw [List.mem_filter, topL_mem, mem_allL]
    constructor
    · rintro ⟨⟨h1, _⟩, h3⟩; exact ⟨h1, h3⟩
    · rintro ⟨h1, h3⟩; exact ⟨⟨h1, hok s (topB_iff.1 h3).1⟩, h3⟩
end Am
namespace Go.Sx
open Go.RowKit

section
variable {C : Cx} {Q : Exit → Act → World → Prop} {L : Regs} {O S : List Fact} {ops : Array Oper} {rest : List Oper} {ty : TypeId} {pos : String} {aft : Array Edge} {dst : Option Tmp} {gu : Option (Nat × Bool)} {t : TypeId} {x y : Operand}
theorem zero_one (z : Value) (n : Nat) : Builtin.zeroCells #[z] n = (List.replicate n z).toArray := by
  refine Array.ext (by simp [Builtin.zeroCells]) fun i h1 h2 => ?_
  simp [Builtin.zeroCells, Nat.mod_one]
/-- An element of an array that lies in a register, a cell each. -/
theorem y_indexA {e n : Nat} {i : Int} {k : IntKind} {cs : List Value} {v : Value} (ht : C.P.underlying t = some (.array n e)) (hs : ∀ w, (sizeOf e).run C.P w = .ok 1 w) (ha : ∀ w, (isAgg e).run C.P w = .ok false w) (hx : val L x = some (.agg cs.toArray)) (hy : val L y = some (.int k i)) (hi : 0 ≤ i ∧ i < n) (hv : cs[i.toNat]? = some v) :
    Yi C ⟨dst, .index t x y, ty, pos, aft, gu⟩ L O S v :=
  yi_val (by intro c h; cases h) fun a w hr _ => by
    simp [execOp, hr.val hx, hr.val hy, Instr.index, asIntOf, run_underlying ht, hi, part, hs, ha, hv]
/-- The elements behind the first i are cleared, and are known no longer. -/
theorem oj_clearCut {α : Type} {e c i : Nat} {enc : α → List Value} {A : Option Addr} {xs : List α} {z : Value} {O' : List Fact} (hu : C.P.underlying t = some (.slice e)) (hz : ∀ w, (zeroValue e).run C.P w = .ok z w) (hzc : z.cells = #[z]) (hone : z.oneCell' = true) (he : ∀ x, (enc x).length = 1)
    (hx : val L x = some (.slice (subA A c i 1) ((xs.take xs.length).drop i).length (c - i))) (hi : i ≤ xs.length) (hA : A = none → c = 0) [hup : UpdOw O A e 1 enc c xs (ow e 1 enc A c (xs.take i)) O'] (k' : OJ C ops Q rest L O' S) :
    OJ C ops Q (⟨none, .call ⟨.builtin .clear, #[x], #[t]⟩, ty, pos, aft, none⟩ :: rest) L O S := by
  intro a w hr hp
  unfold wpListIn
  rw [if_pos (by simp [Region.wanted])]
  refine ⟨fun _ _ => trivial, ?_⟩
  rw [Oper.semAt_eq _ _ _ (by intro c h; cases h)]
  have hP := (hp.own _ hup.rep.mem).1
  have hlen : ((xs.take xs.length).drop i).length = xs.length - i := by simp
  rw [hlen] at hx
  have hcut : ∀ w' : World, (ow e 1 enc A c (xs.take i ++ xs.drop i)).P w' → (ow e 1 enc A c (xs.take i)).P w' := fun w' h => ow_cut he (fun hn => by
    have hcl : xs.length ≤ c := by
      rcases (show w.ownsRow 0 e 1 (.slice A xs.length c) xs.length (xs.flatMap enc) from hP).2 with ⟨h3, _⟩ | ⟨g, cap, cur, hv, _, _, h5, _⟩
      · injection h3 with _ h4 _; omega
      · injection hv with _ _ h6; omega
    have := hA hn
    exact ⟨List.eq_nil_of_length_eq_zero (by simp; omega), this⟩) h
  by_cases hn : xs.length - i = 0
  · have hrun : (execOp a.eval ⟨none, .call ⟨.builtin .clear, #[x], #[t]⟩, ty, pos, aft, none⟩).run C.P w = .ok (.value (.tuple #[])) w := by
      rw [hn] at hx
      cases hA2 : subA A c i 1 <;> simp [execOp, resolve, invoke, builtin, Builtin.clear_, hr.val hx, run_underlying hu, hA2]
    rw [hrun]
    refine k' _ w hr ?_
    have he1 : xs.take i = xs := List.take_of_length_le (by omega)
    refine hp.write hup.rep rfl rfl rfl (Nat.le_refl _) (fun _ _ _ => rfl) (by rw [he1]; exact hP) (fun b hb => ?_)
    rw [he1] at hb
    exact ⟨((hp.own _ hup.rep.mem).2 b hb).1, .inl hb⟩
  · have hP2 : w.ownsRow 0 e 1 (.slice A xs.length c) xs.length (xs.flatMap enc) := hP
    rcases hP2.2 with ⟨h3, _⟩ | ⟨g, cap, cur, hv, h3, h4, h5, h6, h7, h8⟩
    · injection h3 with _ h4 _; omega
    · injection hv with hA1 _ hcap
      subst hA1
      subst hcap
      have hsub : subA (some ⟨g, 0, none⟩) c i 1 = some ⟨g, i, none⟩ := by
        unfold subA
        rw [if_neg (by omega)]
        simp [addr_add]
      rw [hsub] at hx
      have hcur : w.heap[g]? = some (.cells cur.toList.toArray e (0, 0)) := by rw [h4]
      obtain ⟨w', cs2, g1, g2, g3, g4, g5, g6, g7, g8, g9⟩ := run_storeCells C.P (List.replicate (xs.length - i) z) w g i 0 e cur.toList hcur (by simp [hone]) (by simp only [List.length_replicate, Array.length_toList]; omega)
      have hrun : (execOp a.eval ⟨none, .call ⟨.builtin .clear, #[x], #[t]⟩, ty, pos, aft, none⟩).run C.P w = .ok (.value (.tuple #[])) w' := by
        have hnz : ¬ xs.length - i = 0 := hn
        obtain ⟨m, hm⟩ : ∃ m, xs.length - i = m + 1 := ⟨xs.length - i - 1, by omega⟩
        have g1' : (storeCells ⟨g, i, none⟩ (List.replicate (m + 1) z) 0).run C.P w = .ok () w' := by rw [← hm]; exact g1
        rw [hm] at hx
        simp [execOp, resolve, invoke, builtin, Builtin.clear_, hr.val hx, run_underlying hu, hz, hzc, zero_one, g1']
      rw [hrun]
      refine k' _ w' hr ?_
      have hcs : (xs.take i).flatMap enc = (xs.flatMap enc).take i := by
        have h9 : xs.flatMap enc = (xs.take i).flatMap enc ++ (xs.drop i).flatMap enc := by rw [← List.flatMap_append, List.take_append_drop]
        have h10 : ((xs.take i).flatMap enc).length = i := by rw [flatMap_len enc 1 he, List.length_take]; omega
        rw [h9, List.take_append_of_le_length (Nat.le_of_eq h10.symm)]
        exact (List.take_of_length_le (Nat.le_of_eq h10)).symm
      have hli : (xs.take i).length = i := by simp; omega
      have hnew : w'.ownsRow 0 e 1 (.slice (some ⟨g, 0, none⟩) (xs.take i).length c) (xs.take i).length ((xs.take i).flatMap enc) := by
        refine ⟨by rw [flatMap_len enc 1 he], .inr ⟨g, c, cs2.toArray, rfl, h3, g2, by rw [hli]; omega, h6, by simp only [List.size_toArray]; rw [g4]; simpa using h7, ?_⟩⟩
        rw [hcs, ← h8, hli]
        refine List.ext_getElem? fun j => ?_
        simp only [List.getElem?_take, Nat.mul_one]
        by_cases hj : j < i
        · rw [if_pos hj, if_pos hj, if_pos (by omega), g3 j, if_neg (by omega)]
        · rw [if_neg hj, if_neg hj]
      refine hp.write hup.rep g6 g7 g8 (by omega) (fun c1 _ hc1 => g5 c1 (fun e => hc1 (by rw [e]; rfl))) hnew (fun c1 hc1 => ⟨?_, .inl hc1⟩)
      have h9 : some g = some c1 := hc1
      injection h9 with h9
      rw [g9, ← h9]
      exact (Array.getElem?_eq_some_iff.1 h4).1
/-- An element's place in a slice that is one block: at a number that is known. -/
theorem y_ixL {s e n b N c : Nat} {i : Int} {k : IntKind} (k' : Nat) (hu : C.P.underlying s = some (.slice e)) (hs : ∀ w, (sizeOf e).run C.P w = .ok n w) (hx : val L x = some (.slice (some ⟨b, 0, none⟩) N c)) (hy : val L y = some (.int k i)) (hi : 0 ≤ i ∧ i < N) (hk : i.toNat * n = k') :
    Yi C ⟨dst, .indexAddr s x y, ty, pos, aft, gu⟩ L O S (.pointer (some ⟨b, k', none⟩)) := by
  have h := y_ix (C := C) (O := O) (S := S) (dst := dst) (ty := ty) (pos := pos) (aft := aft) (gu := gu) hu hs hx hy hi (by simp)
  have e : at_ (some (⟨b, 0, none⟩ : Addr)) (i.toNat * n) = ⟨b, k', none⟩ := by
    show (⟨b, 0, none⟩ : Addr).add (i.toNat * n) = _
    rw [addr_add, hk]; simp
  rw [e] at h
  exact h
theorem cj_condT {c : Operand} {x y : Code} {t : Bool} (hc : val L c = some (.bool t)) (ht : t = true) (h : CJ C x Q L O S) : CJ C (.cond c x y) Q L O S :=
  cj_cond hc (fun _ => h) (fun hf => by rw [ht] at hf; cases hf)
theorem cj_condF {c : Operand} {x y : Code} {t : Bool} (hc : val L c = some (.bool t)) (ht : t = false) (h : CJ C y Q L O S) : CJ C (.cond c x y) Q L O S :=
  cj_cond hc (fun hf => by rw [ht] at hf; cases hf) (fun _ => h)
/-- A slice is made, of so many zeros. -/
theorem oj_makeSliceC {e d n : Nat} {i : TypeInfo} {z : Value} (cs : List Value) (ht : C.P.underlying t = some (.slice e)) (hi : C.P.info? e = some i) (hz : i.zero = some z) (hcs : madeCells z.cells (n * z.cells.size) = cs.toArray) (hx : val L x = some (.int .i64 (n : Nat))) (hy : val L y = some (.int .i64 (n : Nat)))
    (hb : i.bytes * n ≤ 281474976710656) (h63 : n ≤ 9223372036854775807) (hcl : z.cells.size = i.size) (hdN : Nat.blt d C.N = true) (k : ∀ b, OJ C ops Q rest ((d, .slice (some ⟨b, 0, none⟩) n n) :: L) (ownB b (cellsB e cs) :: O) S) :
    OJ C ops Q (⟨some d, .makeSlice t x y, ty, pos, aft, none⟩ :: rest) L O S :=
  oj_new (by intro c h; cases h) rfl rfl hdN (cellsB e cs) (fun b => .slice (some ⟨b, 0, none⟩) n n) (fun a w hr _ => by
    have hb2 : (i.bytes : Int) * (n : Int) ≤ 281474976710656 := by
      have h0 : ((i.bytes * n : Nat) : Int) ≤ 281474976710656 := by omega
      rwa [Int.natCast_mul] at h0
    have h := run_make (P := C.P) w t e i z ht hi hz .i64 .i64 n n (by omega) (Int.le_refl _) hb2 (by omega)
    simp only [Int.toNat_natCast, ← hcl, hcs] at h
    simp only [execOp, hr.val hx, hr.val hy, Sem.run_bind, h, Result.andThen_ok]
    rfl) k
/-- What was laid as a literal, and is not handed on as one's own, is apart from what is. -/
theorem lit_apart {F : Nat → Prop} {w0 w : World} {Os R : List Fact} {b : Nat} {ob : Obj} (hp : Hp F w0 O S w) (hT : Takes O Os R) [h : HasB R b ob] {o : Fact} (ho : o ∈ Os) (hob : o.fp b) : False :=
  ((hp.ownR hT _ h.mem).2 b rfl).2 o ho hob
end
end Go.Sx
namespace Go.Proofs.Ytehmifpofpifkaa
open Go Go.Sx Go.RowKit
theorem eq_drop {α : Type} [DecidableEq α] (a b : List α) (k : Nat) (x y : α) (hx : a[k]? = some x) (hy : b[k]? = some y) : decide (a.drop k = b.drop k) = (decide (x = y) && decide (a.drop (k + 1) = b.drop (k + 1))) := by
  obtain ⟨h1, h2⟩ := List.getElem?_eq_some_iff.1 hx
  obtain ⟨h3, h4⟩ := List.getElem?_eq_some_iff.1 hy
  rw [List.drop_eq_getElem_cons h1, h2, List.drop_eq_getElem_cons h3, h4]
  by_cases h : x = y <;> by_cases h5 : a.drop (k + 1) = b.drop (k + 1) <;> simp [h, h5]
theorem eq_len {α : Type} [DecidableEq α] {a b : List α} (h : ¬ (a.length : Int) = b.length) : decide (a = b) = false := decide_eq_false (fun e => h (by rw [e]))
theorem len_of {a b : List Int} (h : ((a.length : Int) == (b.length : Int)) = true) : a.length = b.length := by
  have h2 : (a.length : Int) = b.length := by simpa using h
  omega
theorem same_start (a b : List Int) : (((a.length : Int) == (b.length : Int)) && decide (a.drop 0 = b.drop 0)) = decide (a = b) := by
  rw [List.drop_zero, List.drop_zero]
  by_cases h : (a.length : Int) = b.length
  · rw [show ((a.length : Int) == (b.length : Int)) = true by simpa using h]; rfl
  · rw [show ((a.length : Int) == (b.length : Int)) = false by simpa using h, eq_len h]; rfl
theorem beq_dec {x y : Int} {c : Bool} : ((x == y) && c) = (decide (x = y) && c) := by
  by_cases h : x = y <;> simp [h]
theorem Res.of_lit {α : Type} {w w' : World} {b sz : Nat} {enc : α → List Value} {xs : List α} (h : (litS b sz enc xs).P w' ∧ ∀ i, (litS b sz enc xs).fp i → w.heap.size ≤ i ∧ i < w'.heap.size ∧ ∀ o ∈ ([] : List Fact), ¬ o.fp i) : (sl (fun i => w.heap.size ≤ i ∧ i < w'.heap.size) sz enc (some ⟨b, 0, none⟩) xs).P w' :=
  sl_fp h.1 (fun i hi => ⟨(h.2 i hi).1, (h.2 i hi).2.1⟩)
def ringI (n m : Int) : Int := if m ≤ 0 then 0 else ((n.tmod m) + m).tmod m
theorem ringI_bd (n m : Int) (hm : 1 ≤ m) : 0 ≤ ringI n m ∧ ringI n m < m := by
  unfold ringI
  rw [if_neg (by omega)]
  have h1 : -m < n.tmod m ∧ n.tmod m < m := by
    rcases Int.lt_or_le n 0 with h | h
    · have h2 := Int.tmod_lt_of_pos (-n) (show (0 : Int) < m by omega)
      have h3 := Int.tmod_nonneg m (show 0 ≤ -n by omega)
      rw [Int.neg_tmod] at h2 h3
      omega
    · have h2 := Int.tmod_lt_of_pos n (show (0 : Int) < m by omega)
      have h3 := Int.tmod_nonneg m h
      omega
  exact ⟨Int.tmod_nonneg m (by omega), Int.tmod_lt_of_pos _ (by omega)⟩
def pickI (l : List Int) (i : Int) : Int := if l.length = 0 then 0 else l.getD (ringI i l.length).toNat default
theorem gd_of {α : Type} {l : List α} {i : Nat} {x : α} (d : α) (h : l[i]? = some x) : l.getD i d = x := by rw [List.getD_eq_getElem?_getD, h]; rfl
end Go.Proofs.Ytehmifpofpifkaa
namespace Go.Sx
open Go.RowKit Go.ChangeShapes Go.WideShapes

theorem list1' {α : Type} {l : List α} (h : l.length = 1) : ∃ a, l = [a] := by
  match l, h with
  | [a], _ => exact ⟨a, rfl⟩
theorem list2' {α : Type} {l : List α} (h : l.length = 2) : ∃ a b, l = [a, b] := by
  match l, h with
  | [a, b], _ => exact ⟨a, b, rfl⟩
theorem list3' {α : Type} {l : List α} (h : l.length = 3) : ∃ a b c, l = [a, b, c] := by
  match l, h with
  | [a, b, c], _ => exact ⟨a, b, c, rfl⟩
theorem list4' {α : Type} {l : List α} (h : l.length = 4) : ∃ a b c d, l = [a, b, c, d] := by
  match l, h with
  | [a, b, c, d], _ => exact ⟨a, b, c, d, rfl⟩
theorem list5' {α : Type} {l : List α} (h : l.length = 5) : ∃ a b c d e, l = [a, b, c, d, e] := by
  match l, h with
  | [a, b, c, d, e], _ => exact ⟨a, b, c, d, e, rfl⟩
theorem list6' {α : Type} {l : List α} (h : l.length = 6) : ∃ a b c d e f, l = [a, b, c, d, e, f] := by
  match l, h with
  | [a, b, c, d, e, f], _ => exact ⟨a, b, c, d, e, f, rfl⟩
theorem list7' {α : Type} {l : List α} (h : l.length = 7) : ∃ a b c d e f g, l = [a, b, c, d, e, f, g] := by
  match l, h with
  | [a, b, c, d, e, f, g], _ => exact ⟨a, b, c, d, e, f, g, rfl⟩
theorem list8' {α : Type} {l : List α} (h : l.length = 8) : ∃ a b c d e f g i, l = [a, b, c, d, e, f, g, i] := by
  match l, h with
  | [a, b, c, d, e, f, g, i], _ => exact ⟨a, b, c, d, e, f, g, i, rfl⟩
theorem list9' {α : Type} {l : List α} (h : l.length = 9) : ∃ a b c d e f g i j, l = [a, b, c, d, e, f, g, i, j] := by
  match l, h with
  | [a, b, c, d, e, f, g, i, j], _ => exact ⟨a, b, c, d, e, f, g, i, j, rfl⟩
theorem list10' {α : Type} {l : List α} (h : l.length = 10) : ∃ a b c d e f g i j k, l = [a, b, c, d, e, f, g, i, j, k] := by
  match l, h with
  | [a, b, c, d, e, f, g, i, j, k], _ => exact ⟨a, b, c, d, e, f, g, i, j, k, rfl⟩

section
variable {H : Type} {enc0 : TypeId × Value → H} {P : Program} {w : World} {base : Nat} {spare : Nat → Bool} {held : Bool}
theorem okWide_array {t e : TypeId} {n : Nat} {r : Reach} {v : Value} (ht : P.underlying t = some (.array n e)) (h : Value.okWide P w r base t v) : ∃ cs, v = .agg cs ∧ cs.size = P.cellsOf t := by
  simp only [Value.okWide, ht] at h
  obtain ⟨cs, h1, h2, _⟩ := h
  exact ⟨cs, h1, h2⟩
theorem int_cells {t : TypeId} {fuel : Nat} {cs : List Value} {y : DataW H × List MemPlace} (ht : P.underlying t = some (.int .i64)) (h : DataW.trod enc0 P w base spare held fuel t cs = some y) : ∃ s : Int, cs = [.int .i64 s] ∧ -9223372036854775808 ≤ s ∧ s ≤ 9223372036854775807 := by
  obtain ⟨m, hm, _, hw⟩ := DataW.trod_int ht h
  refine ⟨m, hm, ?_⟩
  simp only [Lit.wf, Bool.and_eq_true, decide_eq_true_eq] at hw
  exact hw
theorem str_cells {t : TypeId} {fuel : Nat} {cs : List Value} {y : DataW H × List MemPlace} (ht : P.underlying t = some .string) (h : DataW.trod enc0 P w base spare held fuel t cs = some y) : ∃ s : ByteArray, cs = [.string s] ∧ s.size ≤ maxLen := by
  obtain ⟨m, hm, _, hw⟩ := DataW.trod_string ht h
  exact ⟨m, hm, hw⟩
theorem strTop {r : Reach} {b0 : Nat} {t : TypeId} {v : Value} {d : DataW H} {ps : List MemPlace} (ht : P.underlying t = some .string) (hval : Value.okWide P w r b0 t v) (hd : DataW.Trod enc0 P w base spare held t v d ps) : ∃ s : ByteArray, v = .string s ∧ s.size ≤ maxLen := by
  obtain ⟨s, rfl⟩ := Go.WideShapes.okWide_string ht hval
  obtain ⟨f, h⟩ := hd
  obtain ⟨s', e, hm⟩ := str_cells ht h
  have e1 : s = s' := by
    have e2 : [Value.string s] = [Value.string s'] := e
    injection e2 with e3
    injection e3
  exact ⟨s, rfl, e1 ▸ hm⟩
theorem bool_cells {t : TypeId} {fuel : Nat} {cs : List Value} {y : DataW H × List MemPlace} (ht : P.underlying t = some .bool) (h : DataW.trod enc0 P w base spare held fuel t cs = some y) : ∃ b : Bool, cs = [.bool b] := by
  obtain ⟨m, hm, _⟩ := DataW.trod_bool ht h
  exact ⟨m, hm⟩
/-- An array of ints. -/
theorem arr_cells {t e : TypeId} {n fuel : Nat} {cs : List Value} {y : DataW H × List MemPlace} (ht : P.underlying t = some (.array n e)) (he : P.underlying e = some (.int .i64)) (hce : P.cellsOf e = 1) (hc : P.cellsOf t = n)
    (h : DataW.trod enc0 P w base spare held fuel t cs = some y) : ∃ ns : List Int, ns.length = n ∧ cs = ns.map (Value.int .i64) := by
  obtain ⟨xs, m, _, _, hl, hxl, hf⟩ := DataW.trod_array ht h
  rw [hc] at hl
  have hcell : ∀ i, i < n → ∃ m : Int, cs[i]? = some (.int .i64 m) := by
    intro i hi
    have h1 := hf i hi
    rw [hce] at h1
    have hx : xs[i]? = some (xs[i]'(by omega)) := List.getElem?_eq_getElem (by omega)
    rw [hx] at h1
    obtain ⟨m, hm, _⟩ := DataW.trod_int he h1
    refine ⟨m, ?_⟩
    have h2 : ((cs.drop (i * 1)).take 1)[0]? = some (.int .i64 m) := by rw [hm]; rfl
    rw [List.getElem?_take_of_lt (by omega), List.getElem?_drop] at h2
    simpa using h2
  have key : ∀ (k : Nat) (cs : List Value), cs.length = k → (∀ i, i < k → ∃ m : Int, cs[i]? = some (.int .i64 m)) → ∃ ns : List Int, ns.length = k ∧ cs = ns.map (Value.int .i64) := by
    intro k
    induction k with
    | zero => intro cs hl _; exact ⟨[], rfl, List.eq_nil_of_length_eq_zero hl⟩
    | succ k ih =>
      intro cs hl hk
      cases cs with
      | nil => simp at hl
      | cons c cs =>
        obtain ⟨m, hm⟩ := hk 0 (by omega)
        obtain ⟨ns, h1, h2⟩ := ih cs (by simpa using hl) (fun i hi => by
          obtain ⟨m, hm⟩ := hk (i + 1) (by omega)
          exact ⟨m, by simpa using hm⟩)
        exact ⟨m :: ns, by simp [h1], by simp at hm; simp [hm, h2]⟩
  exact key n cs hl hcell
/-- How much memory a datum holds: no slice and no string of it holds more than can be. -/
def Wok {H : Type} (P : Program) (t : TypeId) (d : DataW H) : Prop := (d.weights P t).all (· ≤ reachBytes) = true
theorem wparam {ts : List TypeId} {ds : List (DataW H)} {j : Nat} {t : TypeId} {d : DataW H} (h : (DataW.weightsEach P ts ds).all (· ≤ reachBytes) = true) (ht : ts[j]? = some t) (hd : ds[j]? = some d) : Wok P t d :=
  List.all_eq_true.2 fun n hn => List.all_eq_true.1 h n (DataW.weights_mem_each ht hd n hn)
theorem wfield {t : TypeId} {fs : Array Field} {xs : List (DataW H × List MemPlace)} {i : Nat} {f : Field} {z : DataW H × List MemPlace} (ht : P.underlying t = some (.struct fs)) (hw : Wok P t (.agg (xs.map (·.1)))) (hi : fs[i]? = some f) (hx : xs[i]? = some z) : Wok P f.type z.1 := by
  refine List.all_eq_true.2 fun n hn => List.all_eq_true.1 hw n ?_
  have h1 := DataW.weights_mem_each (P := P) (ts := fs.toList.map (·.type)) (ds := xs.map (·.1)) (j := i) (t := f.type) (d := z.1) (by simp [hi]) (by simp [hx]) n hn
  simpa [DataW.weights, ht] using h1
theorem wslice {t e : TypeId} {fuel : Nat} {cs : List Value} {x : DataW H × List MemPlace} {B : Nat} (ht : P.underlying t = some (.slice e)) (hB : P.bytesOf e = B) (h : DataW.trod enc0 P w base spare held fuel t cs = some x) (hw : Wok P t x.1) {A : Option Addr} {n c : Nat} (hc : cs = [.slice A n c]) : n * B ≤ 140737488351232 := by
  subst hB
  rcases DataW.trod_slice ht h with ⟨hcs, _⟩ | ⟨a, len, cap, elems, rest, m, _, hcs, hx, _, _, _, hl, _⟩
  · rw [hc] at hcs; injection hcs with hcs; injection hcs with _ hn _; subst hn; simp
  · rw [hc] at hcs; injection hcs with hcs; injection hcs with _ hn _; subst hn
    rw [hx] at hw
    have h1 : (elems.length + rest.length) * P.bytesOf e ≤ reachBytes := by
      refine of_decide_eq_true (List.all_eq_true.1 hw _ ?_)
      simp [DataW.weights, ht]
    rw [← hl]
    have h2 : elems.length * P.bytesOf e ≤ (elems.length + rest.length) * P.bytesOf e := Nat.mul_le_mul_right _ (Nat.le_add_right _ _)
    exact Nat.le_trans h2 h1
end
end Go.Sx
