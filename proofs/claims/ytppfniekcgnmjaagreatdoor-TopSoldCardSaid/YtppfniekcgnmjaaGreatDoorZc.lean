/- Texts of ours, joined: 7 of them. Conditions: none. -/
import Derived.Test.YtppfniekcgnmjaaGreatDoorZb
namespace Am
open Go.Sx (getL putL getL_put)

/-! the reference -/
def rngO (i : Int) (rs : List Int) : List BidV → Int → Int
  | [], r => r
  | b :: l, r => rngO i rs l (if b.who = i then max r (rungF b.most rs 0) else r)
def wayO (i : Int) (rs : List Int) (R : Int) : List BidV → Int → Int
  | [], w => w
  | b :: l, w => wayO i rs R l (if b.who = i ∧ rungF b.most rs 0 = R then min w b.way else w)
theorem rngO_drop (i : Int) (rs : List Int) (bs : List BidV) (k : Nat) (b : BidV) (r : Int) (h : bs[k]? = some b) : rngO i rs (bs.drop k) r = rngO i rs (bs.drop (k + 1)) (if b.who = i then max r (rungF b.most rs 0) else r) := by
  obtain ⟨h1, h2⟩ := List.getElem?_eq_some_iff.1 h
  rw [List.drop_eq_getElem_cons h1, h2, rngO]
theorem wayO_drop (i : Int) (rs : List Int) (R : Int) (bs : List BidV) (k : Nat) (b : BidV) (w : Int) (h : bs[k]? = some b) : wayO i rs R (bs.drop k) w = wayO i rs R (bs.drop (k + 1)) (if b.who = i ∧ rungF b.most rs 0 = R then min w b.way else w) := by
  obtain ⟨h1, h2⟩ := List.getElem?_eq_some_iff.1 h
  rw [List.drop_eq_getElem_cons h1, h2, wayO]
theorem rngO_spec (i : Int) (rs : List Int) : ∀ (bs : List BidV) (r : Int), r ≤ rngO i rs bs r ∧ (∀ b ∈ bs, b.who = i → rungF b.most rs 0 ≤ rngO i rs bs r) ∧ (rngO i rs bs r = r ∨ ∃ b ∈ bs, b.who = i ∧ rungF b.most rs 0 = rngO i rs bs r)
  | [], r => ⟨Int.le_refl _, fun _ h => (by cases h), .inl rfl⟩
  | b :: l, r => by
    rw [rngO]
    by_cases hb : b.who = i
    · rw [if_pos hb]
      obtain ⟨h1, h2, h3⟩ := rngO_spec i rs l (max r (rungF b.most rs 0))
      refine ⟨by omega, fun q hq hw => ?_, ?_⟩
      · rcases List.mem_cons.1 hq with e | e
        · rw [e]; omega
        · exact h2 q e hw
      · rcases h3 with e | ⟨q, hq, x⟩
        · by_cases hm : r ≤ rungF b.most rs 0
          · exact .inr ⟨b, List.mem_cons_self .., hb, by omega⟩
          · exact .inl (by omega)
        · exact .inr ⟨q, List.mem_cons_of_mem _ hq, x⟩
    · rw [if_neg hb]
      obtain ⟨h1, h2, h3⟩ := rngO_spec i rs l r
      refine ⟨h1, fun q hq hw => ?_, h3.imp id fun ⟨q, hq, x⟩ => ⟨q, List.mem_cons_of_mem _ hq, x⟩⟩
      rcases List.mem_cons.1 hq with e | e
      · exact absurd (e ▸ hw) hb
      · exact h2 q e hw
theorem wayO_spec (i : Int) (rs : List Int) (R : Int) : ∀ (bs : List BidV) (w : Int), wayO i rs R bs w ≤ w ∧ (∀ b ∈ bs, b.who = i → rungF b.most rs 0 = R → wayO i rs R bs w ≤ b.way) ∧ (wayO i rs R bs w = w ∨ ∃ b ∈ bs, b.who = i ∧ rungF b.most rs 0 = R ∧ b.way = wayO i rs R bs w)
  | [], w => ⟨Int.le_refl _, fun _ h => (by cases h), .inl rfl⟩
  | b :: l, w => by
    rw [wayO]
    by_cases hb : b.who = i ∧ rungF b.most rs 0 = R
    · rw [if_pos hb]
      obtain ⟨h1, h2, h3⟩ := wayO_spec i rs R l (min w b.way)
      refine ⟨by omega, fun q hq hw hr => ?_, ?_⟩
      · rcases List.mem_cons.1 hq with e | e
        · rw [e]; omega
        · exact h2 q e hw hr
      · rcases h3 with e | ⟨q, hq, x⟩
        · by_cases hm : b.way ≤ w
          · exact .inr ⟨b, List.mem_cons_self .., hb.1, hb.2, by omega⟩
          · exact .inl (by omega)
        · exact .inr ⟨q, List.mem_cons_of_mem _ hq, x⟩
    · rw [if_neg hb]
      obtain ⟨h1, h2, h3⟩ := wayO_spec i rs R l w
      refine ⟨h1, fun q hq hw hr => ?_, h3.imp id fun ⟨q, hq, x⟩ => ⟨q, List.mem_cons_of_mem _ hq, x⟩⟩
      rcases List.mem_cons.1 hq with e | e
      · exact absurd (e ▸ ⟨hw, hr⟩) hb
      · exact h2 q e hw hr
def refOff (rs : List Int) (bs : List BidV) (i : Int) : BidV := ⟨i, wayO i rs (rngO i rs bs 0) bs 9, rngO i rs bs 0⟩
theorem mem_offs {rs : List Int} {bs : List BidV} {o : BidV} : o ∈ offs rs bs ↔ 0 < o.most ∧ ∃ b ∈ bs, offer1 rs b = o := by
  unfold offs
  rw [List.mem_filter, List.mem_map, decide_eq_true_iff]
  exact ⟨fun ⟨a, b⟩ => ⟨b, a⟩, fun ⟨a, b⟩ => ⟨b, a⟩⟩
theorem refOff_spec (rs : List Int) (bs : List BidV) (i : Int) (hw : ∀ b ∈ bs, b.way ≤ 3) : ((refOff rs bs i).most = 0 ∧ ∀ o ∈ offs rs bs, o.who ≠ i) ∨ (0 < (refOff rs bs i).most ∧ refOff rs bs i ∈ offs rs bs ∧ ∀ o ∈ offs rs bs, o.who = i → o = refOff rs bs i ∨ beats (refOff rs bs i) o = true) := by
  obtain ⟨h1, h2, h3⟩ := rngO_spec i rs bs 0
  obtain ⟨k1, k2, k3⟩ := wayO_spec i rs (rngO i rs bs 0) bs 9
  by_cases h0 : rngO i rs bs 0 = 0
  · refine .inl ⟨h0, fun o ho hwo => ?_⟩
    obtain ⟨hp, b, hb, e⟩ := mem_offs.1 ho
    subst e
    have h4 := h2 b hb hwo
    unfold offer1 at hp
    simp only at hp
    omega
  · right
    refine ⟨by unfold refOff; simp only; omega, ?_, ?_⟩
    · rcases h3 with e | ⟨b, hb, hbw, hbr⟩
      · exact absurd e h0
      · have h5 := k2 b hb hbw hbr
        have h6 := hw b hb
        rcases k3 with e | ⟨c, hc, hcw, hcr, hcy⟩
        · omega
        · refine mem_offs.2 ⟨by unfold refOff; simp only; omega, c, hc, bid_ext hcw hcy hcr⟩
    · intro o ho hwo
      obtain ⟨hp, b, hb, e⟩ := mem_offs.1 ho
      subst e
      have h4 := h2 b hb hwo
      rw [beats_iff]
      by_cases he : rungF b.most rs 0 = rngO i rs bs 0
      · have h5 := k2 b hb hwo he
        by_cases hy : b.way = wayO i rs (rngO i rs bs 0) bs 9
        · exact .inl (bid_ext hwo hy he)
        · right; right
          exact ⟨he.symm, .inl (by unfold refOff offer1; simp only; omega)⟩
      · right; left
        unfold refOff offer1; simp only; omega
def bid0 : BidV := ⟨0, 0, 0⟩
/-- the reference's loop over the bidders -/
def winR (rs : List Int) (bs : List BidV) : Nat → BidV × Int
  | 0 => (bid0, 0)
  | i + 1 => if (refOff rs bs i).most = 0 then winR rs bs i else if beats (refOff rs bs i) (winR rs bs i).1 then (refOff rs bs i, max (winR rs bs i).2 (winR rs bs i).1.most) else ((winR rs bs i).1, max (winR rs bs i).2 (refOff rs bs i).most)
theorem winR_spec (rs : List Int) (bs : List BidV) (hw : ∀ b ∈ bs, b.way ≤ 3) (h0 : ∀ b ∈ bs, 0 ≤ b.who) : ∀ n : Nat, ((∀ o ∈ offs rs bs, (n : Int) ≤ o.who) ∧ winR rs bs n = (bid0, 0)) ∨
    (((winR rs bs n).1 ∈ offs rs bs ∧ (winR rs bs n).1.who < n ∧ ∀ o ∈ offs rs bs, o.who < n → o = (winR rs bs n).1 ∨ beats (winR rs bs n).1 o = true) ∧
     (0 ≤ (winR rs bs n).2 ∧ (winR rs bs n).2 ≤ (winR rs bs n).1.most ∧ (∀ o ∈ offs rs bs, o.who < n → o.who ≠ (winR rs bs n).1.who → o.most ≤ (winR rs bs n).2) ∧ ((winR rs bs n).2 = 0 ∨ ∃ o ∈ offs rs bs, o.who ≠ (winR rs bs n).1.who ∧ o.most = (winR rs bs n).2)))
  | 0 => .inl ⟨fun o ho => by
      obtain ⟨_, b, hb, e⟩ := mem_offs.1 ho
      subst e; exact h0 b hb, rfl⟩
  | n + 1 => by
    have ih := winR_spec rs bs hw h0 n
    rw [winR]
    rcases refOff_spec rs bs n hw with ⟨e0, hno⟩ | ⟨hpos, hmem, hbest⟩
    · rw [if_pos e0]
      have hlt : ∀ o ∈ offs rs bs, o.who < ((n + 1 : Nat) : Int) → o.who < n := fun o ho h => by have := hno o ho; omega
      rcases ih with ⟨a, b⟩ | ⟨⟨a1, a2, a3⟩, b1, b2, b3, b4⟩
      · exact .inl ⟨fun o ho => by have := a o ho; have := hno o ho; omega, b⟩
      · exact .inr ⟨⟨a1, by omega, fun o ho h => a3 o ho (hlt o ho h)⟩, b1, b2, fun o ho h => b3 o ho (hlt o ho h), b4⟩
    · rw [if_neg (by omega)]
      have hwn : (refOff rs bs n).who = n := rfl
      have hmn : ∀ o ∈ offs rs bs, o.who = n → o.most ≤ (refOff rs bs n).most := fun o ho h => by
        rcases hbest o ho h with e | e
        · rw [e]; exact Int.le_refl _
        · rw [beats_iff] at e; omega
      rcases ih with ⟨a, b⟩ | ⟨⟨a1, a2, a3⟩, b1, b2, b3, b4⟩
      · rw [b, if_pos (by rw [beats_iff]; left; exact hpos)]
        right
        refine ⟨⟨hmem, by rw [hwn]; omega, fun o ho h => hbest o ho (by have := a o ho; omega)⟩, ?_, ?_, ?_, ?_⟩
        · simp [bid0]
        · simp [bid0]; omega
        · intro o ho h hne; simp only at hne; rw [hwn] at hne; have := a o ho; omega
        · left; simp [bid0]
      · generalize hV : winR rs bs n = V at *
        obtain ⟨W, s⟩ := V
        simp only at a1 a2 a3 b1 b2 b3 b4 ⊢
        have hall : ∀ o ∈ offs rs bs, o.who < ((n + 1 : Nat) : Int) → o.who < n ∨ o.who = n := fun o ho h => by omega
        have hmW : ∀ o ∈ offs rs bs, o.who < n → o.most ≤ W.most := fun o ho h => by
          rcases a3 o ho h with e | e
          · rw [e]; exact Int.le_refl _
          · rw [beats_iff] at e; omega
        by_cases hb : beats (refOff rs bs n) W = true
        · rw [if_pos hb]
          right
          have hb' := (beats_iff _ _).1 hb
          refine ⟨⟨hmem, by simp only; rw [hwn]; omega, fun o ho h => ?_⟩, by simp only; omega, by simp only; omega, fun o ho h hne => ?_, ?_⟩
          · rcases hall o ho h with h | h
            · rcases a3 o ho h with e | e
              · exact .inr (e ▸ hb)
              · right; simp only; rw [beats_iff] at e ⊢; omega
            · exact hbest o ho h
          · simp only at hne ⊢; rw [hwn] at hne
            rcases hall o ho h with h | h
            · have := hmW o ho h; omega
            · exact absurd h hne
          · simp only
            by_cases hm : s ≤ W.most
            · exact .inr ⟨W, a1, by rw [hwn]; omega, by omega⟩
            · omega
        · rw [if_neg hb]
          right
          rw [Bool.not_eq_true, beats_no] at hb
          have hWr : beats W (refOff rs bs n) = true := by
            rw [beats_iff]; rw [hwn] at hb ⊢; omega
          refine ⟨⟨a1, by simp only; omega, fun o ho h => ?_⟩, by simp only; omega, by simp only; omega, fun o ho h hne => ?_, ?_⟩
          · rcases hall o ho h with h | h
            · exact a3 o ho h
            · right
              rcases hbest o ho h with e | e
              · rw [e]; exact hWr
              · simp only; rw [beats_iff] at *; omega
          · simp only at hne ⊢
            rcases hall o ho h with h | h
            · have := b3 o ho h hne; omega
            · have := hmn o ho h; omega
          · simp only
            by_cases hm : s ≤ (refOff rs bs n).most
            · exact .inr ⟨refOff rs bs n, hmem, by rw [hwn]; omega, by omega⟩
            · rcases b4 with e | ⟨o, ho, x, y⟩
              · omega
              · exact .inr ⟨o, ho, x, by omega⟩
def priceR (lad : List RiseV) (start win second : Int) : Int := if second = win then win else if second = 0 then start else nx lad second
def resR (lad : List RiseV) (r : Int) : Nat → Int → Int
  | 0, x => x
  | k + 1, x => if x < r then resR lad r k (nx lad x) else x
theorem resR_beh {lad : List RiseV} (h : LadOk lad) (r : Int) (hr : r ≤ 100000) : ∀ (k : Nat) (x : Int), 1 ≤ x → 100001 ≤ x + k → (if 100000 < resR lad r k x then 0 else resR lad r k x) = behF (r - 1) (rgs lad k x)
  | 0, x, _, hk => by rw [resR, rgs, behF, if_pos (by omega)]
  | k + 1, x, hx, hk => by
    have hb := byR_bd h (p := x) (by omega)
    rw [resR, rgs_s]
    by_cases h1 : x < r
    · rw [if_pos h1, if_pos (show x ≤ 100000 by omega), behF, if_neg (show ¬ r - 1 < x by omega)]
      exact resR_beh h r hr k _ (by unfold nx; omega) (by unfold nx; omega)
    · rw [if_neg h1]
      by_cases h2 : x ≤ 100000
      · rw [if_pos h2, if_neg (show ¬ 100000 < x by omega), behF, if_pos (show r - 1 < x by omega)]
      · rw [if_neg h2, if_pos (show 100000 < x by omega), behF]
theorem asc_least {rs : List Int} (h : Asc rs) {n m : Int} (hnm : n ≤ m) (hm : behF m rs ≠ 0) : behF n rs ≠ 0 ∧ behF n rs ≤ behF m rs := by
  rcases behF_spec (n := m) rs h with ⟨e, _⟩ | ⟨h1, h2, h3⟩
  · exact absurd e hm
  · rcases behF_spec (n := n) rs h with ⟨e, k⟩ | ⟨k1, k2, k3⟩
    · have := k _ h1; omega
    · exact ⟨by have := (h.pos _ k1).1; omega, k3 _ h1 (by omega)⟩
/-- the prices are one -/
theorem price_eq {lad : List RiseV} (h : LadOk lad) {start win second : Int} (hs : 1 ≤ start) (hw : win ∈ rgL lad start) (hsec : second = 0 ∨ second ∈ rgL lad start) (hle : second ≤ win) : priceR lad start win second = priceF (rgL lad start) start win second := by
  unfold priceR priceF
  by_cases h1 : second = win
  · rw [if_pos h1, if_pos h1]
  · rw [if_neg h1, if_neg h1]
    by_cases h2 : second = 0
    · rw [if_pos h2, if_pos h2]
    · rw [if_neg h2, if_neg h2]
      have hm := hsec.resolve_left h2
      rw [behL_next h hs hm]
      rcases behF_spec (n := second) _ (rgL_asc h hs) with ⟨_, k⟩ | ⟨k1, k2, _⟩
      · have := k win hw; omega
      · have hp := (rgL_asc h hs).pos _ k1
        rw [behL_next h hs hm] at hp
        by_cases hn : nx lad second ≤ 100000
        · rw [if_pos hn]
        · rw [if_neg hn] at hp; omega
def knockR (lad : List RiseV) (start least : Int) (s : BidV × Int) : KnockV := if s.1.most = 0 ∨ least = 0 ∨ s.1.most < least then ⟨-1, 0⟩ else ⟨s.1.who, max least (priceR lad start s.1.most s.2)⟩
theorem sell_ref {lad : List RiseV} (h : LadOk lad) {start least : Int} (hs : 1 ≤ start) {bs : List BidV} (hb : ∀ b ∈ bs, (0 ≤ b.who ∧ b.who ≤ 99) ∧ b.way ≤ 3) : knockR lad start least (winR (rgL lad start) bs 100) = knockF (rgL lad start) start least (offs (rgL lad start) bs) := by
  have hlt : ∀ o ∈ offs (rgL lad start) bs, o.who < ((100 : Nat) : Int) := fun o ho => by have := (offs_who (fun b hb' => (hb b hb').1) ho).2; omega
  rcases winR_spec (rgL lad start) bs (fun b hb' => (hb b hb').2) (fun b hb' => (hb b hb').1.1) 100 with ⟨h1, e⟩ | ⟨⟨a1, a2, a3⟩, b1, b2, b3, b4⟩
  · have e0 : offs (rgL lad start) bs = [] := by
      refine List.eq_nil_iff_forall_not_mem.2 fun o ho => ?_
      have := h1 o ho; have := hlt o ho; omega
    rw [e, e0]
    simp [knockR, bid0, knockF, winO]
  · have hw : IsWin (offs (rgL lad start) bs) (winR (rgL lad start) bs 100).1 := ⟨a1, fun o ho => a3 o ho (hlt o ho)⟩
    have hk : IsSec (offs (rgL lad start) bs) (winR (rgL lad start) bs 100).1.who (winR (rgL lad start) bs 100).2 := ⟨fun o ho hne => b3 o ho (hlt o ho) hne, b4⟩
    rw [knock_eq hw hk (fun o ho => offs_pos ho), knockR]
    have hp := offs_pos a1
    have hne : ¬ (winR (rgL lad start) bs 100).1.most = 0 := by omega
    have hpr := price_eq h hs (offs_rung (rgL_asc h hs) a1) (second := (winR (rgL lad start) bs 100).2) (b4.imp id fun ⟨o, ho, _, e⟩ => e ▸ offs_rung (rgL_asc h hs) ho) b2
    simp only [hne, false_or, hpr]
/-- the room's step of the reference -/
def stepR (lad : List RiseV) (start : Int) (x : LeadV) (o : BidV) : LeadV :=
  let y : LeadV := if x.who = -1 then ⟨o.who, o.most, o.way, x.second, x.price⟩
    else if x.who = o.who then (if x.limit < o.most ∨ o.most = x.limit ∧ o.way < x.way then ⟨x.who, o.most, o.way, x.second, x.price⟩ else x)
    else if beats o ⟨x.who, x.way, x.limit⟩ then ⟨o.who, o.most, o.way, x.limit, x.price⟩
    else ⟨x.who, x.limit, x.way, max x.second o.most, x.price⟩
  ⟨y.who, y.limit, y.way, y.second, priceR lad start y.limit y.second⟩
theorem step_eq {lad : List RiseV} (h : LadOk lad) {start : Int} (hs : 1 ≤ start) {os : List BidV} {x : LeadV} {o : BidV} (hx : LeadIs (rgL lad start) start os x) (ho : o.most ∈ rgL lad start) (hw : 0 ≤ o.who) (hr : ∀ q ∈ os, q.most ∈ rgL lad start) (hq : ∀ q ∈ os, 0 ≤ q.who) : stepR lad start x o = stepP (rgL lad start) start x o := by
  have ha := rgL_asc h hs
  have hos := ha.pos _ ho
  -- what is changed ahead of the price is one
  have hn := lead_step hx (by omega : 1 ≤ o.most) hw (fun q hq' => (ha.pos _ (hr q hq')).1) hq
  rcases hn with ⟨e, _⟩ | ⟨W, hW, n1, n2, n3, n4, n0, n5, n6⟩
  · simp at e
  have hWr : W.most ∈ rgL lad start := by
    rcases List.mem_append.1 hW.mem with e | e
    · exact hr _ e
    · simp at e; rw [e]; exact ho
  have hsr : (stepP (rgL lad start) start x o).second = 0 ∨ (stepP (rgL lad start) start x o).second ∈ rgL lad start := n4.at_.imp id fun ⟨q, hq', _, e⟩ => by
    rw [← e]
    rcases List.mem_append.1 hq' with e' | e'
    · exact hr _ e'
    · simp at e'; rw [e']; exact ho
  have hpe := price_eq h hs (n2 ▸ hWr) hsr n5
  have key : (stepR lad start x o).who = (stepP (rgL lad start) start x o).who ∧ (stepR lad start x o).limit = (stepP (rgL lad start) start x o).limit ∧ (stepR lad start x o).way = (stepP (rgL lad start) start x o).way ∧ (stepR lad start x o).second = (stepP (rgL lad start) start x o).second := by
    unfold stepR stepP
    rcases hx with ⟨_, ex⟩ | ⟨V, hV, m1, m2, m3, m4, m0, m5, m6⟩
    · subst ex
      unfold lead0
      rw [if_pos rfl, if_neg (by simp only; omega), if_pos (.inl rfl)]
      exact ⟨rfl, rfl, rfl, rfl⟩
    · have hv := hq V hV.mem
      rw [if_neg (by omega)]
      by_cases hc : x.who = o.who
      · rw [if_pos hc, if_pos hc]
        by_cases hb : x.limit < o.most ∨ o.most = x.limit ∧ o.way < x.way
        · rw [if_pos hb, if_pos (by rw [beats_iff]; simp only; omega)]; exact ⟨rfl, rfl, rfl, rfl⟩
        · rw [if_neg hb, if_neg (by rw [Bool.not_eq_true, beats_no]; simp only; omega)]; exact ⟨rfl, rfl, rfl, rfl⟩
      · rw [if_neg hc, if_neg hc]
        by_cases hb : beats o ⟨x.who, x.way, x.limit⟩ = true
        · rw [if_pos hb, if_pos (.inr hb)]; exact ⟨rfl, rfl, rfl, rfl⟩
        · rw [if_neg hb, if_neg (by rintro (h | h); omega; exact hb h)]; exact ⟨rfl, rfl, rfl, rfl⟩
  obtain ⟨k1, k2, k3, k4⟩ := key
  have hR : (stepR lad start x o).price = priceR lad start (stepR lad start x o).limit (stepR lad start x o).second := rfl
  have e : ∀ x y : LeadV, x.who = y.who → x.limit = y.limit → x.way = y.way → x.second = y.second → x.price = y.price → x = y := by
    intro x y; cases x; cases y; simp; intros; simp_all
  exact e _ _ k1 k2 k3 k4 (by rw [hR, k2, k4, hpe]; exact n6.symm)
end Am
namespace Am
open Go.Sx (getL putL getL_put)

/-! maps as lists of entries -/
theorem getL_mem {l : List (Int × BidV)} : ∀ {k : Int} {v : BidV}, getL l k = some v → (k, v) ∈ l := by
  induction l with
  | nil => intro k v h; cases h
  | cons p l ih =>
    intro k v h
    rw [getL] at h
    split at h
    · rename_i hk
      cases h
      rw [← hk]; exact List.mem_cons_self ..
    · exact List.mem_cons_of_mem _ (ih h)
theorem getL_no {l : List (Int × BidV)} : ∀ {k : Int}, getL l k = none → ∀ p ∈ l, p.1 ≠ k := by
  induction l with
  | nil => intro k h p hp; cases hp
  | cons q l ih =>
    intro k h p hp
    rw [getL] at h
    split at h
    · cases h
    · rename_i hk
      rcases List.mem_cons.1 hp with e | e
      · rw [e]; exact hk
      · exact ih h p e
theorem putL_mem : ∀ {l : List (Int × BidV)} {k : Int} {v : BidV} {p : Int × BidV}, p ∈ putL l k v → p = (k, v) ∨ p ∈ l
  | [], k, v, p, h => by simpa [putL] using h
  | q :: l, k, v, p, h => by
    rw [putL] at h
    split at h
    · rcases List.mem_cons.1 h with e | e
      · exact .inl e
      · exact .inr (List.mem_cons_of_mem _ e)
    · rcases List.mem_cons.1 h with e | e
      · exact .inr (e ▸ List.mem_cons_self ..)
      · exact (putL_mem e).imp id (List.mem_cons_of_mem _)
theorem putL_keys : ∀ (l : List (Int × BidV)) (k : Int) (v : BidV), (putL l k v).map (·.1) = if k ∈ l.map (·.1) then l.map (·.1) else l.map (·.1) ++ [k]
  | [], k, v => by simp [putL]
  | q :: l, k, v => by
    rw [putL]
    by_cases h : q.1 = k
    · rw [if_pos h]; simp [h]
    · rw [if_neg h, List.map_cons, putL_keys l k v]
      by_cases hk : k ∈ l.map (·.1)
      · rw [if_pos hk, if_pos (by rw [List.map_cons]; exact List.mem_cons_of_mem _ hk), List.map_cons]
      · rw [if_neg hk, if_neg (by rw [List.map_cons]; intro e; rcases List.mem_cons.1 e with e | e; exact h e.symm; exact hk e), List.map_cons]; rfl
/-- what the map holds -/
structure OwnIs (os : List BidV) (l : List (Int × BidV)) : Prop where
  val : ∀ p ∈ l, p.2.who = p.1 ∧ p.2 ∈ os ∧ ∀ o ∈ os, o.who = p.1 → o = p.2 ∨ beats p.2 o = true
  all : ∀ o ∈ os, ∃ p ∈ l, p.1 = o.who
  nd : (l.map (·.1)).Nodup
def ownC (l : List (Int × BidV)) (o : BidV) : Bool := match getL l o.who with | none => true | some v => beats o v
def ownS (l : List (Int × BidV)) (o : BidV) : List (Int × BidV) := if ownC l o = true then putL l o.who o else l
theorem getL_of {l : List (Int × BidV)} (hn : (l.map (·.1)).Nodup) {p : Int × BidV} (hp : p ∈ l) : getL l p.1 = some p.2 := by
  induction l with
  | nil => cases hp
  | cons q l ih =>
    rw [List.map_cons, List.nodup_cons] at hn
    rw [getL]
    rcases List.mem_cons.1 hp with e | e
    · rw [if_pos (by rw [e]), e]
    · rw [if_neg (show ¬ q.1 = p.1 from fun h => hn.1 (by rw [h]; exact List.mem_map.2 ⟨p, e, rfl⟩)), ih hn.2 e]
theorem own_step {os : List BidV} {l : List (Int × BidV)} (h : OwnIs os l) (o : BidV) : OwnIs (os ++ [o]) (ownS l o) := by
  have htr : ∀ a b c : BidV, beats a b = true → beats b c = true → beats a c = true := fun a b c h1 h2 => by rw [beats_iff] at *; omega
  unfold ownS ownC
  cases hg : getL l o.who with
  | none =>
    have hno := getL_no hg
    rw [if_pos rfl]
    have hnm : o.who ∉ l.map (·.1) := fun e => by obtain ⟨p, hp, e⟩ := List.mem_map.1 e; exact hno p hp e
    have hk := putL_keys l o.who o
    rw [if_neg hnm] at hk
    refine ⟨fun p hp => ?_, fun q hq => ?_, ?_⟩
    · rcases putL_mem hp with e | e
      · rw [e]
        refine ⟨rfl, by simp, fun q hq hw => ?_⟩
        rcases List.mem_append.1 hq with e' | e'
        · obtain ⟨r, hr, hrw⟩ := h.all q e'
          exact absurd (hrw.trans hw) (hno r hr)
        · exact .inl (by simpa using e')
      · obtain ⟨a, b, c⟩ := h.val p e
        refine ⟨a, List.mem_append_left _ b, fun q hq hw => ?_⟩
        rcases List.mem_append.1 hq with e' | e'
        · exact c q e' hw
        · simp at e'; rw [e'] at hw; exact absurd hw.symm (hno p e)
    · rcases List.mem_append.1 hq with e | e
      · obtain ⟨r, hr, hrw⟩ := h.all q e
        have : q.who ∈ (putL l o.who o).map (·.1) := by rw [hk]; exact List.mem_append_left _ (List.mem_map.2 ⟨r, hr, hrw⟩)
        obtain ⟨p, hp, e⟩ := List.mem_map.1 this
        exact ⟨p, hp, e⟩
      · simp at e
        have : q.who ∈ (putL l o.who o).map (·.1) := by rw [hk, e]; simp
        obtain ⟨p, hp, e⟩ := List.mem_map.1 this
        exact ⟨p, hp, e⟩
    · rw [hk]
      exact List.nodup_append.2 ⟨h.nd, by simp, fun a ha b hb => by simp at hb; rw [hb]; exact fun e => hnm (e ▸ ha)⟩
  | some v =>
    have hm := getL_mem hg
    obtain ⟨v1, v2, v3⟩ := h.val _ hm
    have hmk : o.who ∈ l.map (·.1) := List.mem_map.2 ⟨_, hm, rfl⟩
    by_cases hb : beats o v = true
    · simp only [hb, if_true]
      have hk := putL_keys l o.who o
      rw [if_pos hmk] at hk
      have hin : ∀ p ∈ putL l o.who o, p = (o.who, o) ∨ (p ∈ l ∧ p.1 ≠ o.who) := by
        intro p hp
        by_cases hpo : p.1 = o.who
        · left
          have hgp := getL_of (by rw [hk]; exact h.nd) hp
          rw [getL_put, if_pos hpo.symm] at hgp
          cases hgp
          exact Prod.ext hpo (by simp_all)
        · rcases putL_mem hp with e | e
          · exact .inl e
          · exact .inr ⟨e, hpo⟩
      refine ⟨fun p hp => ?_, fun q hq => ?_, by rw [hk]; exact h.nd⟩
      · rcases hin p hp with e | ⟨e, hne⟩
        · rw [e]
          refine ⟨rfl, by simp, fun q hq hw => ?_⟩
          rcases List.mem_append.1 hq with e' | e'
          · rcases v3 q e' hw with e2 | e2
            · exact .inr (e2 ▸ hb)
            · exact .inr (htr _ _ _ hb e2)
          · exact .inl (by simpa using e')
        · obtain ⟨a, b, c⟩ := h.val p e
          refine ⟨a, List.mem_append_left _ b, fun q hq hw => ?_⟩
          rcases List.mem_append.1 hq with e' | e'
          · exact c q e' hw
          · simp at e'; rw [e'] at hw; exact absurd hw.symm hne
      · have : q.who ∈ (putL l o.who o).map (·.1) := by
          rw [hk]
          rcases List.mem_append.1 hq with e | e
          · obtain ⟨r, hr, hrw⟩ := h.all q e
            exact List.mem_map.2 ⟨r, hr, hrw⟩
          · simp at e; rw [e]; exact hmk
        obtain ⟨p, hp, e⟩ := List.mem_map.1 this
        exact ⟨p, hp, e⟩
    · simp only [hb, Bool.false_eq_true, if_false]
      refine ⟨fun p hp => ?_, fun q hq => ?_, h.nd⟩
      · obtain ⟨a, b, c⟩ := h.val p hp
        refine ⟨a, List.mem_append_left _ b, fun q hq hw => ?_⟩
        rcases List.mem_append.1 hq with e' | e'
        · exact c q e' hw
        · simp at e'
          rw [e'] at hw ⊢
          have hpv : p.2 = v := by
            have := getL_of h.nd hp
            rw [← hw, hg] at this
            cases this; rfl
          rw [hpv]
          rw [Bool.not_eq_true, beats_no] at hb
          simp only at v1
          by_cases he : o = v
          · exact .inl he
          · right
            rw [beats_iff]
            by_cases h3 : o.way = v.way ∧ o.most = v.most
            · exact absurd (bid_ext v1.symm h3.1 h3.2) he
            · omega
      · rcases List.mem_append.1 hq with e | e
        · exact h.all q e
        · simp at e; rw [e]; exact ⟨_, hm, rfl⟩
def ownF (rs : List Int) : List BidV → List (Int × BidV) → List (Int × BidV)
  | [], l => l
  | b :: bs, l => ownF rs bs (if 0 < (offer1 rs b).most then ownS l (offer1 rs b) else l)
theorem ownF_drop (rs : List Int) (bs : List BidV) (k : Nat) (b : BidV) (l : List (Int × BidV)) (h : bs[k]? = some b) : ownF rs (bs.drop k) l = ownF rs (bs.drop (k + 1)) (if 0 < (offer1 rs b).most then ownS l (offer1 rs b) else l) := by
  obtain ⟨h1, h2⟩ := List.getElem?_eq_some_iff.1 h
  rw [List.drop_eq_getElem_cons h1, h2, ownF]
theorem ownF_is (rs : List Int) : ∀ (bs as_ : List BidV) (l : List (Int × BidV)), OwnIs (offs rs as_) l → OwnIs (offs rs (as_ ++ bs)) (ownF rs bs l)
  | [], as_, l, h => by rw [List.append_nil]; exact h
  | b :: bs, as_, l, h => by
    rw [ownF, show as_ ++ b :: bs = (as_ ++ [b]) ++ bs by simp]
    refine ownF_is rs bs _ _ ?_
    rw [offs_snoc]
    by_cases hb : 0 < (offer1 rs b).most
    · rw [if_pos hb, if_pos hb]; exact own_step h _
    · rw [if_neg hb, if_neg hb]; exact h
theorem ownF_own (rs : List Int) (bs : List BidV) : OwnIs (offs rs bs) (ownF rs bs []) := by
  have := ownF_is rs bs [] [] ⟨fun _ h => (by cases h), fun o h => (by simp [offs] at h), by simp⟩
  simpa using this
def secT : List BidV → Int
  | [] => 0
  | p :: _ => p.most
/-- the program's sale, from the sorted offers -/
def sellP (rs : List Int) (start least : Int) (s : List BidV) : KnockV := match s with
  | [] => ⟨-1, 0⟩
  | o :: t => if least = 0 ∨ o.most < least then ⟨-1, 0⟩ else ⟨o.who, max least (priceF rs start o.most (secT t))⟩
theorem sell_eq {rs : List Int} {start least : Int} {os s : List BidV} {l : List (Int × BidV)} (h : OwnIs os l) (hp : s.Perm (l.map (·.2))) (hs : s.Pairwise (fun a b => beats b a = false)) (h1 : ∀ o ∈ os, 1 ≤ o.most) : sellP rs start least s = knockF rs start least os := by
  have hin : ∀ v ∈ s, v ∈ os := fun v hv => by
    obtain ⟨p, hp', e⟩ := List.mem_map.1 (hp.mem_iff.1 hv)
    rw [← e]; exact (h.val p hp').2.1
  have hof : ∀ o ∈ os, ∃ v ∈ s, v.who = o.who ∧ (o = v ∨ beats v o = true) := fun o ho => by
    obtain ⟨p, hp', e⟩ := h.all o ho
    obtain ⟨a, b, c⟩ := h.val p hp'
    exact ⟨p.2, hp.mem_iff.2 (List.mem_map.2 ⟨p, hp', rfl⟩), a.trans e, c o ho e.symm⟩
  have hnd : (s.map (·.who)).Nodup := by
    refine (hp.map _).nodup_iff.2 ?_
    rw [List.map_map, show l.map ((fun v : BidV => v.who) ∘ fun p : Int × BidV => p.2) = l.map (fun p : Int × BidV => p.1) from List.map_congr_left fun p hp' => (h.val p hp').1]
    exact h.nd
  have htr : ∀ a b c : BidV, a = b ∨ beats a b = true → (c = b ∨ beats b c = true) → (c = a ∨ beats a c = true) := fun a b c e1 e2 => by
    rcases e1 with e1 | e1
    · rw [e1]; exact e2
    · rcases e2 with e2 | e2
      · rw [e2]; exact .inr e1
      · right; rw [beats_iff] at *; omega
  match s, hin, hof, hnd, hs with
  | [], hin, hof, _, _ =>
    have : os = [] := List.eq_nil_iff_forall_not_mem.2 fun o ho => by obtain ⟨v, hv, _⟩ := hof o ho; cases hv
    rw [this]; rfl
  | o :: t, hin, hof, hnd, hs =>
    have hst := List.pairwise_cons.1 hs
    rw [List.map_cons, List.nodup_cons] at hnd
    have hne : ∀ v ∈ t, v.who ≠ o.who := fun v hv e => hnd.1 (e ▸ List.mem_map.2 ⟨v, hv, rfl⟩)
    have hbt : ∀ v ∈ t, beats o v = true := fun v hv => by
      have h2 := hst.1 v hv; have h3 := hne v hv
      rw [beats_no] at h2; rw [beats_iff]; omega
    have hw : IsWin os o := ⟨hin o (List.mem_cons_self ..), fun q hq => by
      obtain ⟨v, hv, _, e⟩ := hof q hq
      rcases List.mem_cons.1 hv with e' | e'
      · rw [e'] at e; exact e
      · exact htr o v q (.inr (hbt v e')) e⟩
    have hk : IsSec os o.who (secT t) := by
      cases t with
      | nil =>
        refine ⟨fun q hq hne' => ?_, .inl rfl⟩
        obtain ⟨v, hv, e1, _⟩ := hof q hq
        simp at hv
        rw [hv] at e1; exact absurd e1.symm hne'
      | cons p t =>
        refine ⟨fun q hq hne' => ?_, .inr ⟨p, hin p (by simp), hne p (List.mem_cons_self ..), rfl⟩⟩
        obtain ⟨v, hv, e1, e2⟩ := hof q hq
        have hvm : v.most ≤ p.most := by
          rcases List.mem_cons.1 hv with e' | e'
          · rw [e'] at e1; exact absurd e1.symm hne'
          · rcases List.mem_cons.1 e' with e' | e'
            · rw [e']; exact Int.le_refl _
            · have := (List.pairwise_cons.1 hst.2).1 v e'
              rw [beats_no] at this; omega
        show q.most ≤ p.most
        rcases e2 with e2 | e2
        · rw [e2]; exact hvm
        · rw [beats_iff] at e2; omega
    rw [knock_eq hw hk h1]; rfl
/-! what a sale obeys -/
theorem rungF_mono {rs : List Int} (h : Asc rs) {n m : Int} (hnm : n ≤ m) : rungF n rs 0 ≤ rungF m rs 0 := by
  rcases rungF_spec (n := n) rs 0 h with ⟨e, _⟩ | ⟨a, b, c⟩
  · rw [e]
    rcases rungF_spec (n := m) rs 0 h with ⟨e, _⟩ | ⟨a, _, _⟩
    · rw [e]; exact Int.le_refl _
    · have := (h.pos _ a).1; omega
  · rcases rungF_spec (n := m) rs 0 h with ⟨_, k⟩ | ⟨_, _, k⟩
    · have := k _ a; omega
    · exact k _ a (by omega)
theorem rungF_nn {rs : List Int} (h : Asc rs) (n : Int) : 0 ≤ rungF n rs 0 := by
  rcases rungF_spec (n := n) rs 0 h with ⟨e, _⟩ | ⟨a, _, _⟩
  · rw [e]; exact Int.le_refl _
  · have := (h.pos _ a).1; omega
def maxB (p : BidV → Bool) : List BidV → Int → Int
  | [], m => m
  | b :: l, m => maxB p l (if p b = true then max m b.most else m)
theorem maxB_drop (p : BidV → Bool) (bs : List BidV) (k : Nat) (b : BidV) (m : Int) (h : bs[k]? = some b) : maxB p (bs.drop k) m = maxB p (bs.drop (k + 1)) (if p b = true then max m b.most else m) := by
  obtain ⟨h1, h2⟩ := List.getElem?_eq_some_iff.1 h
  rw [List.drop_eq_getElem_cons h1, h2, maxB]
theorem maxB_spec (p : BidV → Bool) : ∀ (bs : List BidV) (m : Int), m ≤ maxB p bs m ∧ (∀ b ∈ bs, p b = true → b.most ≤ maxB p bs m) ∧ (maxB p bs m = m ∨ ∃ b ∈ bs, p b = true ∧ b.most = maxB p bs m)
  | [], m => ⟨Int.le_refl _, fun _ h => (by cases h), .inl rfl⟩
  | b :: l, m => by
    rw [maxB]
    by_cases hb : p b = true
    · rw [if_pos hb]
      obtain ⟨h1, h2, h3⟩ := maxB_spec p l (max m b.most)
      refine ⟨by omega, fun q hq hw => ?_, ?_⟩
      · rcases List.mem_cons.1 hq with e | e
        · rw [e]; omega
        · exact h2 q e hw
      · rcases h3 with e | ⟨q, hq, x⟩
        · by_cases hm : m ≤ b.most
          · exact .inr ⟨b, List.mem_cons_self .., hb, by omega⟩
          · exact .inl (by omega)
        · exact .inr ⟨q, List.mem_cons_of_mem _ hq, x⟩
    · rw [if_neg hb]
      obtain ⟨h1, h2, h3⟩ := maxB_spec p l m
      refine ⟨h1, fun q hq hw => ?_, h3.imp id fun ⟨q, hq, x⟩ => ⟨q, List.mem_cons_of_mem _ hq, x⟩⟩
      rcases List.mem_cons.1 hq with e | e
      · exact absurd (e ▸ hw) hb
      · exact h2 q e hw
theorem own_rung {rs : List Int} (h : Asc rs) {bs : List BidV} {W : BidV} (hw : IsWin (offs rs bs) W) (h1 : ∀ b ∈ bs, 1 ≤ b.most) : rungF (maxB (fun b => b.who == W.who) bs 0) rs 0 = W.most := by
  obtain ⟨a1, a2, a3⟩ := maxB_spec (fun b => b.who == W.who) bs 0
  obtain ⟨hp, b, hb, e⟩ := mem_offs.1 hw.mem
  have hwho : b.who = W.who := by rw [← e]; rfl
  have hm : rungF b.most rs 0 = W.most := by rw [← e]; rfl
  have h2 := rungF_mono h (a2 b hb (by simp [hwho]))
  rcases a3 with e' | ⟨c, hc, hcw, hcm⟩
  · have := a2 b hb (by simp [hwho]); have := h1 b hb; omega
  · rw [← hcm] at h2 ⊢
    have hco : offer1 rs c ∈ offs rs bs := mem_offs.2 ⟨by unfold offer1; simp only; omega, c, hc, rfl⟩
    have := hw.most hco
    unfold offer1 at this
    simp only at this
    omega
theorem other_rung {rs : List Int} (h : Asc rs) {bs : List BidV} {w s : Int} (hk : IsSec (offs rs bs) w s) (h0 : 0 ≤ s) : rungF (maxB (fun b => !(b.who == w)) bs 0) rs 0 ≤ s := by
  obtain ⟨a1, a2, a3⟩ := maxB_spec (fun b => !(b.who == w)) bs 0
  rcases a3 with e' | ⟨c, hc, hcw, hcm⟩
  · rw [e']
    rcases rungF_spec (n := 0) rs 0 h with ⟨e, _⟩ | ⟨a, b, _⟩
    · omega
    · have := (h.pos _ a).1; omega
  · by_cases hp : 0 < rungF c.most rs 0
    · rw [← hcm]
      exact hk.le (offer1 rs c) (mem_offs.2 ⟨hp, c, hc, rfl⟩) (show c.who ≠ w by simpa using hcw)
    · rw [← hcm]; omega
theorem price_bd {rs : List Int} (h : Asc rs) {start limit second : Int} (h0 : 0 ≤ start) (hl : limit ∈ rs) (hsl : ∀ r ∈ rs, start ≤ r) (hle : second ≤ limit) : start ≤ priceF rs start limit second ∧ second ≤ priceF rs start limit second ∧ priceF rs start limit second ≤ limit := by
  have h1 := hsl _ hl
  have h2 := (h.pos _ hl).1
  unfold priceF
  split
  · omega
  · split
    · omega
    · rcases behF_spec (n := second) rs h with ⟨_, k⟩ | ⟨k1, k2, k3⟩
      · have := k _ hl; omega
      · exact ⟨hsl _ k1, by omega, k3 _ hl (by omega)⟩
end Am
namespace Am

theorem price_mono {rs : List Int} (h : Asc rs) {start a b s t : Int} (h0 : 0 ≤ start) (hb : b ∈ rs) (hsl : ∀ r ∈ rs, start ≤ r) (ht : t = 0 ∨ t ∈ rs) (hs : 0 ≤ s) (hst : s ≤ t) (hab : a ≤ b) (hsa : s ≤ a) (htb : t ≤ b) : priceF rs start a s ≤ priceF rs start b t := by
  obtain ⟨p1, p2, p3⟩ := price_bd h h0 hb hsl htb
  by_cases h1 : s = a
  · have : priceF rs start a s = a := if_pos h1
    omega
  · by_cases h2 : s = 0
    · have : priceF rs start a s = start := by unfold priceF; rw [if_neg h1, if_pos h2]
      omega
    · have e : priceF rs start a s = behF s rs := by unfold priceF; rw [if_neg h1, if_neg h2]
      rw [e]
      by_cases h3 : s = t
      · have : priceF rs start b t = behF s rs := by unfold priceF; rw [if_neg (by omega), if_neg (by omega), h3]
        omega
      · rcases behF_spec (n := s) rs h with ⟨_, k⟩ | ⟨_, _, k3⟩
        · have := k b hb; omega
        · have := k3 t (ht.resolve_left (by omega)) (by omega); omega
theorem knock_of_lead {rs : List Int} {start least : Int} {os : List BidV} {x : LeadV} (h : LeadIs rs start os x) (hq : ∀ q ∈ os, 0 ≤ q.who) (hp : ∀ q ∈ os, 1 ≤ q.most) : knockF rs start least os = if x.who = -1 ∨ least = 0 ∨ x.limit < least then ⟨-1, 0⟩ else ⟨x.who, max least x.price⟩ := by
  rcases h with ⟨e, ex⟩ | ⟨W, hW, a1, a2, a3, a4, a0, a5, a6⟩
  · rw [e, ex]; simp [knockF, winO, lead0]
  · rw [knock_eq hW a4 hp]
    have := hq _ hW.mem
    have hne : ¬ W.who = -1 := by omega
    simp only [a1, a2, a6, hne, false_or]
theorem step_more {rs : List Int} (ha : Asc rs) {start : Int} (h0 : 0 ≤ start) (hsl : ∀ r ∈ rs, start ≤ r) {os : List BidV} {x : LeadV} {o : BidV} (h : LeadIs rs start os x) (hx : x.who ≠ -1) (ho : o.most ∈ rs) (hw : 0 ≤ o.who) (hr : ∀ q ∈ os, q.most ∈ rs) (hq : ∀ q ∈ os, 0 ≤ q.who) : (stepP rs start x o).who ≠ -1 ∧ x.limit ≤ (stepP rs start x o).limit ∧ x.price ≤ (stepP rs start x o).price := by
  have hn := lead_step h (ha.pos _ ho).1 hw (fun q hq' => (ha.pos _ (hr q hq')).1) hq
  rcases hn with ⟨e, _⟩ | ⟨V, hV, n1, n2, n3, n4, n0, n5, n6⟩
  · simp at e
  have hVm : V.most ∈ rs ∧ 0 ≤ V.who := by
    rcases List.mem_append.1 hV.mem with e | e
    · exact ⟨hr _ e, hq _ e⟩
    · simp at e; rw [e]; exact ⟨ho, hw⟩
  have hsr : (stepP rs start x o).second = 0 ∨ (stepP rs start x o).second ∈ rs := n4.at_.imp id fun ⟨q, hq', _, e⟩ => by
    rw [← e]
    rcases List.mem_append.1 hq' with e' | e'
    · exact hr _ e'
    · simp at e'; rw [e']; exact ho
  rcases h with ⟨e, ex⟩ | ⟨W, hW, a1, a2, a3, a4, a0, a5, a6⟩
  · rw [ex] at hx; exact absurd rfl hx
  have hls : x.limit ≤ (stepP rs start x o).limit ∧ x.second ≤ (stepP rs start x o).second := by
    unfold stepP
    split
    · split
      · rename_i hb
        rw [beats_iff] at hb
        simp only at hb ⊢; omega
      · exact ⟨Int.le_refl _, Int.le_refl _⟩
    · split
      · rename_i hb
        rcases hb with hb | hb
        · exact absurd hb hx
        · rw [beats_iff] at hb
          simp only at hb ⊢; omega
      · simp only; omega
  refine ⟨by omega, hls.1, ?_⟩
  rw [a6, n6]
  exact price_mono ha h0 (n2 ▸ hVm.1) hsl hsr a0 hls.2 hls.1 a5 n5
/-- a bid more -/
theorem knock_more {rs : List Int} (ha : Asc rs) {start least : Int} (h0 : 0 ≤ start) (hsl : ∀ r ∈ rs, start ≤ r) {bs : List BidV} {b : BidV} (hb : ∀ c ∈ bs, 0 ≤ c.who ∧ c.who ≤ 99) (hw : 0 ≤ b.who) (hk : (knockF rs start least (offs rs bs)).winner ≠ -1) : (knockF rs start least (offs rs (bs ++ [b]))).winner ≠ -1 ∧ (knockF rs start least (offs rs bs)).price ≤ (knockF rs start least (offs rs (bs ++ [b]))).price := by
  have hl := room_end (rs := rs) (start := start) bs hb
  have hq : ∀ q ∈ offs rs bs, 0 ≤ q.who := fun q hq => (offs_who hb hq).1
  have hp : ∀ q ∈ offs rs bs, 1 ≤ q.most := fun q hq => offs_pos hq
  have hr : ∀ q ∈ offs rs bs, q.most ∈ rs := fun q hq => offs_rung ha hq
  rw [offs_snoc]
  by_cases hbm : 0 < (offer1 rs b).most
  · rw [if_pos hbm]
    have hor : (offer1 rs b).most ∈ rs := by
      rcases rungF_spec (n := b.most) rs 0 ha with ⟨e, _⟩ | ⟨e, _⟩
      · unfold offer1 at hbm; rw [e] at hbm; simp at hbm
      · exact e
    have e1 := knock_of_lead (least := least) hl hq hp
    rw [e1] at hk ⊢
    by_cases hc : (roomE rs start bs).who = -1 ∨ least = 0 ∨ (roomE rs start bs).limit < least
    · rw [if_pos hc] at hk; exact absurd rfl hk
    · rw [if_neg hc] at hk ⊢
      obtain ⟨m1, m2, m3⟩ := step_more ha h0 hsl hl (fun e => hc (.inl e)) hor hw hr hq
      have hn := lead_step hl (by omega : 1 ≤ (offer1 rs b).most) hw hp hq
      have hq' : ∀ q ∈ offs rs bs ++ [offer1 rs b], 0 ≤ q.who := fun q hq'' => by
        rcases List.mem_append.1 hq'' with e | e
        · exact hq _ e
        · simp at e; rw [e]; exact hw
      have hp' : ∀ q ∈ offs rs bs ++ [offer1 rs b], 1 ≤ q.most := fun q hq'' => by
        rcases List.mem_append.1 hq'' with e | e
        · exact hp _ e
        · simp at e; rw [e]; omega
      rw [knock_of_lead (least := least) hn hq' hp', if_neg (by omega)]
      exact ⟨m1, by simp only; omega⟩
  · rw [if_neg hbm]; exact ⟨hk, Int.le_refl _⟩
/-- a greater reserve -/
theorem knock_dear {rs : List Int} {start l m : Int} {os : List BidV} (hk : (knockF rs start l os).winner ≠ -1) (hm : m = 0 ∨ l ≤ m) : knockF rs start m os = ⟨-1, 0⟩ ∨ ((knockF rs start m os).winner = (knockF rs start l os).winner ∧ (knockF rs start l os).price ≤ (knockF rs start m os).price) := by
  unfold knockF at *
  generalize winO os = w at *
  cases w with
  | none => exact .inl rfl
  | some W =>
    simp only at hk ⊢
    by_cases h1 : l = 0 ∨ W.most < l
    · rw [if_pos h1] at hk; exact absurd rfl hk
    · rw [if_neg h1]
      by_cases h2 : m = 0 ∨ W.most < m
      · rw [if_pos h2]; exact .inl rfl
      · rw [if_neg h2]; right; exact ⟨rfl, by simp only; omega⟩
theorem knock_none {rs : List Int} {start l : Int} {os : List BidV} (hq : ∀ q ∈ os, 0 ≤ q.who) (h : (knockF rs start l os).winner = -1) : (knockF rs start l os).price = 0 := by
  rcases winO_spec os with ⟨e, _⟩ | ⟨W, e, hW⟩
  · unfold knockF; rw [e]
  · have := hq _ hW.mem
    unfold knockF at h ⊢
    rw [e] at h ⊢
    simp only at h ⊢
    by_cases h1 : l = 0 ∨ W.most < l
    · rw [if_pos h1]
    · rw [if_neg h1] at h; simp only at h; omega
theorem knock_sold {rs : List Int} {start l : Int} {os : List BidV} (hp : ∀ q ∈ os, 1 ≤ q.most) (hk : (knockF rs start l os).winner ≠ -1) : ∃ W s, IsWin os W ∧ IsSec os W.who s ∧ 0 ≤ s ∧ s ≤ W.most ∧ l ≠ 0 ∧ l ≤ W.most ∧ knockF rs start l os = ⟨W.who, max l (priceF rs start W.most s)⟩ := by
  rcases winO_spec os with ⟨e, _⟩ | ⟨W, e, hW⟩
  · unfold knockF at hk; rw [e] at hk; exact absurd rfl hk
  · obtain ⟨h1, h2⟩ := secO_spec W.who os hp
    have h3 : secO W.who os ≤ W.most := by
      rcases h1.at_ with e' | ⟨o, ho, _, e'⟩
      · have := hp _ hW.mem; omega
      · rw [← e']; exact hW.most ho
    have e' := knock_eq (rs := rs) (start := start) (least := l) hW h1 hp
    by_cases hc : l = 0 ∨ W.most < l
    · rw [e', if_pos hc] at hk; exact absurd rfl hk
    · rw [if_neg hc] at e'
      exact ⟨W, _, hW, h1, h2, h3, fun e => hc (.inl e), by omega, e'⟩
/-- the rung of the reserve, as the law finds it -/
def floorF (rs : List Int) (start reserve : Int) : Int × Bool :=
  if reserve ≤ start then (start, true) else
  let n := rungF reserve rs 0
  if n = 0 then (0, false) else if n < reserve then (behF n rs, !(behF n rs == 0)) else (n, true)
theorem floor_eq {lad : List RiseV} (h : LadOk lad) {start reserve : Int} (hs : 1 ≤ start) (hs2 : start ≤ 100000) : floorF (rgL lad start) start reserve = (behF (reserve - 1) (rgL lad start), !(behF (reserve - 1) (rgL lad start) == 0)) := by
  have ha := rgL_asc h hs
  have hst : start ∈ rgL lad start := by rw [rgL_step h (by omega), if_pos hs2]; exact List.mem_cons_self ..
  unfold floorF
  by_cases h1 : reserve ≤ start
  · rw [if_pos h1, rgL_step h (by omega), if_pos hs2, behF, if_pos (by omega)]
    have : (start == 0) = false := by simp; omega
    rw [this]; rfl
  · rw [if_neg h1]
    rcases rungF_spec (n := reserve) (rgL lad start) 0 ha with ⟨_, k⟩ | ⟨k1, k2, k3⟩
    · have := k _ hst; omega
    · have hp := (ha.pos _ k1).1
      simp only
      rw [if_neg (by omega)]
      by_cases h2 : rungF reserve (rgL lad start) 0 < reserve
      · rw [if_pos h2]
        have e : behF (rungF reserve (rgL lad start) 0) (rgL lad start) = behF (reserve - 1) (rgL lad start) := by
          rcases behF_spec (n := rungF reserve (rgL lad start) 0) _ ha with ⟨e, a⟩ | ⟨a1, a2, a3⟩
          · rcases behF_spec (n := reserve - 1) _ ha with ⟨e', b⟩ | ⟨b1, b2, b3⟩
            · rw [e, e']
            · have := a _ b1; omega
          · have hgt : reserve - 1 < behF (rungF reserve (rgL lad start) 0) (rgL lad start) := by
              by_cases hh : behF (rungF reserve (rgL lad start) 0) (rgL lad start) ≤ reserve
              · have := k3 _ a1 hh; omega
              · omega
            rcases behF_spec (n := reserve - 1) _ ha with ⟨e', b⟩ | ⟨b1, b2, b3⟩
            · have := b _ a1; omega
            · have := a3 _ b1 (by omega); have := b3 _ a1 hgt; omega
        rw [e]
      · rw [if_neg h2]
        have hrr : rungF reserve (rgL lad start) 0 = reserve := by omega
        have e : behF (reserve - 1) (rgL lad start) = reserve := by
          rcases behF_spec (n := reserve - 1) _ ha with ⟨_, b⟩ | ⟨b1, b2, b3⟩
          · have := b _ k1; omega
          · have := b3 _ k1 (by omega); omega
        rw [e, hrr]
        have : (reserve == 0) = false := by simp; omega
        rw [this]; rfl
theorem rgL_start {lad : List RiseV} (h : LadOk lad) {start : Int} (hs : 1 ≤ start) : ∀ r ∈ rgL lad start, start ≤ r := (rgs_asc h _ start hs).2
end Am
namespace Am
/-- a sum over the first n numbers -/
def sumN : Nat → (Nat → Int) → Int
  | 0, _ => 0
  | n + 1, f => sumN n f + f n
theorem sumN_congr {n : Nat} {f g : Nat → Int} (h : ∀ i, i < n → f i = g i) : sumN n f = sumN n g := by
  induction n with
  | zero => rfl
  | succ n ih => rw [sumN, sumN, ih (fun i hi => h i (by omega)), h n (by omega)]
theorem sumN_add (n : Nat) (f g : Nat → Int) : sumN n (fun i => f i + g i) = sumN n f + sumN n g := by
  induction n with
  | zero => rfl
  | succ n ih => rw [sumN, sumN, sumN, ih]; omega
theorem sumN_le {n : Nat} {f g : Nat → Int} (h : ∀ i, i < n → f i ≤ g i) : sumN n f ≤ sumN n g := by
  induction n with
  | zero => exact Int.le_refl _
  | succ n ih => rw [sumN, sumN]; have := ih (fun i hi => h i (by omega)); have := h n (by omega); omega
theorem sumN_one {n k : Nat} (f : Nat → Int) (hk : k < n) (h : ∀ i, i < n → i ≠ k → f i = 0) : sumN n f = f k := by
  induction n with
  | zero => omega
  | succ n ih =>
    rw [sumN]
    by_cases e : n = k
    · subst e
      rw [sumN_congr (g := fun _ => 0) (fun i hi => h i (by omega) (by omega))]
      have : ∀ m, sumN m (fun _ => 0) = 0 := by intro m; induction m with
        | zero => rfl
        | succ m ih => rw [sumN, ih]; rfl
      rw [this]; omega
    · rw [ih (by omega) (fun i hi hne => h i (by omega) hne), h n (by omega) e]; omega
theorem sumN_zero (n : Nat) : sumN n (fun _ => 0) = 0 := by
  induction n with
  | zero => rfl
  | succ n ih => rw [sumN, ih]; rfl
/-- one place is another -/
theorem sumN_upd {n k : Nat} (f g : Nat → Int) (hk : k < n) (h : ∀ i, i < n → i ≠ k → f i = g i) : sumN n f = sumN n g - g k + f k := by
  have := sumN_add n g (fun i => f i - g i)
  rw [sumN_one (fun i => f i - g i) hk (fun i hi hne => by have := h i hi hne; omega)] at this
  rw [sumN_congr (f := f) (g := fun i => g i + (f i - g i)) (fun i _ => by omega), this]; omega

/-- who gets which lot: of n bidders, of m lots -/
structure Val (n m : Nat) (σ : Nat → Option Nat) : Prop where
  lot : ∀ i j, i < n → σ i = some j → j < m
  inj : ∀ i i' j, i < n → i' < n → σ i = some j → σ i' = some j → i = i'
def gt (w : Nat → Nat → Int) (i : Nat) : Option Nat → Int
  | none => 0
  | some j => w i j
def wt (n : Nat) (w : Nat → Nat → Int) (σ : Nat → Option Nat) : Int := sumN n (fun i => gt w i (σ i))
/-- a lot more, that is as lot k -/
def dup (m k : Nat) (w : Nat → Nat → Int) : Nat → Nat → Int := fun i j => w i (if j = m then k else j)
structure IsMax (n m : Nat) (w : Nat → Nat → Int) (M : Int) : Prop where
  at_ : ∃ σ, Val n m σ ∧ wt n w σ = M
  le : ∀ σ, Val n m σ → wt n w σ ≤ M
theorem IsMax.uniq {n m : Nat} {w : Nat → Nat → Int} {M M' : Int} (h : IsMax n m w M) (h' : IsMax n m w M') : M = M' := by
  obtain ⟨σ, h1, h2⟩ := h.at_
  obtain ⟨σ', h3, h4⟩ := h'.at_
  have := h.le σ' h3
  have := h'.le σ h1
  omega

/-! ### Exchange -/
inductive Dx (n m : Nat) (σ τ : Nat → Option Nat) : Nat → Prop
  | start {i : Nat} : i < n → τ i = some m → Dx n m σ τ i
  | step {i j b : Nat} : Dx n m σ τ i → σ i = some b → j < n → τ j = some b → Dx n m σ τ j
theorem Dx.lt {n m : Nat} {σ τ : Nat → Option Nat} {i : Nat} (h : Dx n m σ τ i) : i < n := by cases h <;> assumption
theorem Dx.lot {n m : Nat} {σ τ : Nat → Option Nat} {i b : Nat} (h : Dx n m σ τ i) (hb : τ i = some b) : b = m ∨ ∃ j, Dx n m σ τ j ∧ σ j = some b := by
  cases h with
  | start _ h => rw [h] at hb; injection hb with hb; exact .inl hb.symm
  | step h1 h2 _ h3 => rw [h3] at hb; injection hb with hb; subst hb; exact .inr ⟨_, h1, h2⟩
open Classical in
noncomputable def xs (n m : Nat) (σ τ : Nat → Option Nat) (i : Nat) : Option Nat := if Dx n m σ τ i then τ i else σ i
open Classical in
noncomputable def xt (n m : Nat) (σ τ : Nat → Option Nat) (i : Nat) : Option Nat := if Dx n m σ τ i then σ i else τ i
section
variable {n m : Nat} {σ τ : Nat → Option Nat}
theorem xs_y {i : Nat} (h : Dx n m σ τ i) : xs n m σ τ i = τ i := if_pos h
theorem xs_n {i : Nat} (h : ¬ Dx n m σ τ i) : xs n m σ τ i = σ i := if_neg h
theorem xt_y {i : Nat} (h : Dx n m σ τ i) : xt n m σ τ i = σ i := if_pos h
theorem xt_n {i : Nat} (h : ¬ Dx n m σ τ i) : xt n m σ τ i = τ i := if_neg h
theorem xs_val (hs : Val n m σ) (ht : Val n (m + 1) τ) : Val n (m + 1) (xs n m σ τ) := by
  have mix : ∀ i i' j, i < n → i' < n → Dx n m σ τ i → ¬ Dx n m σ τ i' → τ i = some j → σ i' = some j → False := by
    intro i i' j hi hi' d d' h h'
    rcases d.lot h with e | ⟨k, dk, hk⟩
    · subst e; have := hs.lot i' _ hi' h'; omega
    · have := hs.inj k i' j dk.lt hi' hk h'; subst this; exact d' dk
  refine ⟨fun i j hi h => ?_, fun i i' j hi hi' h h' => ?_⟩
  · by_cases d : Dx n m σ τ i
    · rw [xs_y d] at h; exact ht.lot i j hi h
    · rw [xs_n d] at h; have := hs.lot i j hi h; omega
  · by_cases d : Dx n m σ τ i <;> by_cases d' : Dx n m σ τ i'
    · rw [xs_y d] at h; rw [xs_y d'] at h'; exact ht.inj i i' j hi hi' h h'
    · rw [xs_y d] at h; rw [xs_n d'] at h'; exact (mix i i' j hi hi' d d' h h').elim
    · rw [xs_n d] at h; rw [xs_y d'] at h'; exact (mix i' i j hi' hi d' d h' h).elim
    · rw [xs_n d] at h; rw [xs_n d'] at h'; exact hs.inj i i' j hi hi' h h'
theorem xt_val (hs : Val n m σ) (ht : Val n (m + 1) τ) : Val n m (xt n m σ τ) := by
  refine ⟨fun i j hi h => ?_, fun i i' j hi hi' h h' => ?_⟩
  · by_cases d : Dx n m σ τ i
    · rw [xt_y d] at h; exact hs.lot i j hi h
    · rw [xt_n d] at h
      have := ht.lot i j hi h
      by_cases e : j = m
      · subst e; exact absurd (.start hi h) d
      · omega
  · by_cases d : Dx n m σ τ i <;> by_cases d' : Dx n m σ τ i'
    · rw [xt_y d] at h; rw [xt_y d'] at h'; exact hs.inj i i' j hi hi' h h'
    · rw [xt_y d] at h; rw [xt_n d'] at h'; exact absurd (.step d h hi' h') d'
    · rw [xt_n d] at h; rw [xt_y d'] at h'; exact absurd (.step d' h' hi h) d
    · rw [xt_n d] at h; rw [xt_n d'] at h'; exact ht.inj i i' j hi hi' h h'
theorem xs_img {i b : Nat} (hi : i < n) (hb : b < m) (h : xs n m σ τ i = some b) : ∃ j, j < n ∧ σ j = some b := by
  by_cases d : Dx n m σ τ i
  · rw [xs_y d] at h
    rcases d.lot h with e | ⟨k, dk, hk⟩
    · omega
    · exact ⟨k, dk.lt, hk⟩
  · rw [xs_n d] at h; exact ⟨i, hi, h⟩
theorem Dx.some {i : Nat} (h : Dx n m σ τ i) : τ i ≠ none := by cases h <;> simp [*]
theorem x_sum (w w' : Nat → Nat → Int) (hs : Val n m σ) (ht : Val n (m + 1) τ) (hw : ∀ i j, j < m → w' i j = w i j) : wt n w' (xs n m σ τ) + wt n w (xt n m σ τ) = wt n w σ + wt n w' τ := by
  unfold wt
  rw [← sumN_add, ← sumN_add]
  refine sumN_congr fun i hi => ?_
  have hv := xt_val hs ht
  by_cases d : Dx n m σ τ i
  · rw [xs_y d, xt_y d]; exact Int.add_comm _ _
  · rw [xs_n d, xt_n d]
    have e1 : gt w' i (σ i) = gt w i (σ i) := by
      cases h : σ i with
      | none => rfl
      | some j => exact hw i j (hs.lot i j hi h)
    have e2 : gt w i (τ i) = gt w' i (τ i) := by
      cases h : τ i with
      | none => rfl
      | some j =>
        have := hv.lot i j hi (by rw [xt_n d]; exact h)
        exact (hw i j this).symm
    rw [e1, e2]
end
theorem dup_lt {m k : Nat} {w : Nat → Nat → Int} (i j : Nat) (hj : j < m) : dup m k w i j = w i j := by
  unfold dup; rw [if_neg (by omega)]

/-! ### Lots that are renamed -/
/-- the copy of lot k is lot k -/
def undup (m k : Nat) (σ : Nat → Option Nat) : Nat → Option Nat := fun i => (σ i).map (fun j => if j = m then k else j)
theorem undup_wt (n m k : Nat) (w : Nat → Nat → Int) (σ : Nat → Option Nat) : wt n w (undup m k σ) = wt n (dup m k w) σ := by
  unfold wt
  refine sumN_congr fun i _ => ?_
  unfold undup
  cases σ i <;> rfl
theorem undup_val {n m k : Nat} {σ : Nat → Option Nat} (h : Val n (m + 1) σ) (hk : k < m) (hno : ∀ i, i < n → σ i ≠ some k) : Val n m (undup m k σ) := by
  refine ⟨fun i j hi e => ?_, fun i i' j hi hi' e e' => ?_⟩
  · unfold undup at e
    obtain ⟨b, hb, e⟩ := Option.map_eq_some_iff.1 e
    have := h.lot i b hi hb
    split at e <;> omega
  · unfold undup at e e'
    obtain ⟨b, hb, e⟩ := Option.map_eq_some_iff.1 e
    obtain ⟨b', hb', e'⟩ := Option.map_eq_some_iff.1 e'
    have hbk : b ≠ k := fun e => hno i hi (e ▸ hb)
    have hbk' : b' ≠ k := fun e => hno i' hi' (e ▸ hb')
    have : b = b' := by split at e <;> split at e' <;> omega
    subst this
    exact h.inj i i' b hi hi' hb hb'
/-- lot k that nobody gets in a best award: another one like it is worth nothing more -/
theorem unsold {n m k : Nat} {w : Nat → Nat → Int} {M Mk : Int} {σ : Nat → Option Nat} (hs : Val n m σ) (hM : IsMax n m w M) (hMk : IsMax n (m + 1) (dup m k w) Mk) (ho : wt n w σ = M) (hk : k < m) (hno : ∀ i, i < n → σ i ≠ some k) : Mk ≤ M := by
  obtain ⟨τ, ht, hτ⟩ := hMk.at_
  have e := x_sum w (dup m k w) hs ht (fun i j hj => dup_lt i j hj)
  have h1 := hM.le _ (xt_val hs ht)
  have h2 := hM.le _ (undup_val (k := k) (xs_val hs ht) hk (fun i hi e => by
    obtain ⟨j, hj, h⟩ := xs_img hi hk e
    exact hno j hj h))
  rw [undup_wt] at h2
  omega

/-! ### What a bidder adds -/
inductive Rx (n s i : Nat) (σ τ : Nat → Option Nat) : Nat → Prop
  | start {j : Nat} : j < n → τ j = some s → Rx n s i σ τ j
  | step {j j' b : Nat} : Rx n s i σ τ j → j ≠ i → σ j = some b → j' < n → τ j' = some b → Rx n s i σ τ j'
theorem Rx.lt {n s i : Nat} {σ τ : Nat → Option Nat} {j : Nat} (h : Rx n s i σ τ j) : j < n := by cases h <;> assumption
theorem dx_rx {n m i : Nat} {σ τ : Nat → Option Nat} {j : Nat} (h : Dx n m σ τ j) : Rx n m i σ τ j ∨ Rx n m i σ τ i := by
  induction h with
  | start h1 h2 => exact .inl (.start h1 h2)
  | @step a b c _ h1 h2 h3 ih =>
    rcases ih with ih | ih
    · by_cases e : a = i
      · subst e; exact .inr ih
      · exact .inl (.step ih e h1 h2 h3)
    · exact .inr ih
/-- lots a and m change their names -/
def swp (a m : Nat) (τ : Nat → Option Nat) : Nat → Option Nat := fun i => (τ i).map (fun j => if j = m then a else if j = a then m else j)
theorem swp_val {n m a : Nat} {τ : Nat → Option Nat} (h : Val n (m + 1) τ) (ha : a < m) : Val n (m + 1) (swp a m τ) := by
  refine ⟨fun i j hi e => ?_, fun i i' j hi hi' e e' => ?_⟩
  · unfold swp at e
    obtain ⟨b, hb, e⟩ := Option.map_eq_some_iff.1 e
    have := h.lot i b hi hb
    split at e
    · omega
    · split at e <;> omega
  · unfold swp at e e'
    obtain ⟨b, hb, e⟩ := Option.map_eq_some_iff.1 e
    obtain ⟨b', hb', e'⟩ := Option.map_eq_some_iff.1 e'
    have : b = b' := by
      split at e <;> split at e'
      · omega
      · split at e' <;> omega
      · split at e <;> omega
      · split at e <;> split at e' <;> omega
    subst this
    exact h.inj i i' b hi hi' hb hb'
theorem swp_wt (n m a : Nat) (w : Nat → Nat → Int) (τ : Nat → Option Nat) : wt n (dup m a w) (swp a m τ) = wt n (dup m a w) τ := by
  unfold wt
  refine sumN_congr fun i _ => ?_
  unfold swp
  cases τ i with
  | none => rfl
  | some j =>
    show dup m a w i (if j = m then a else if j = a then m else j) = dup m a w i j
    unfold dup
    congr 1
    by_cases h1 : j = m
    · rw [if_pos h1, if_pos h1]
      by_cases e : a = m
      · rw [if_pos e]
      · rw [if_neg e]
    · rw [if_neg h1, if_neg h1]
      by_cases h2 : j = a
      · rw [if_pos h2, if_pos rfl, h2]
      · rw [if_neg h2, if_neg h1]
theorem swp_m {a m : Nat} {τ : Nat → Option Nat} {j : Nat} (ha : a ≠ m) (h : swp a m τ j = some m) : τ j = some a := by
  unfold swp at h
  obtain ⟨b, hb, e⟩ := Option.map_eq_some_iff.1 h
  split at e
  · omega
  · split at e
    · rename_i h2; rw [hb, h2]
    · omega
theorem swp_o {a m : Nat} {τ : Nat → Option Nat} {j b : Nat} (h1 : b ≠ a) (h2 : b ≠ m) (h : swp a m τ j = some b) : τ j = some b := by
  unfold swp at h
  obtain ⟨c, hc, e⟩ := Option.map_eq_some_iff.1 h
  split at e
  · omega
  · split at e
    · omega
    · rw [hc, e]
theorem rx_swp {n m a i : Nat} {σ τ : Nat → Option Nat} (hs : Val n m σ) (ha : a < m) (hi : i < n) (hia : σ i = some a) {j : Nat} (h : Rx n m i σ (swp a m τ) j) : Rx n a i σ τ j := by
  induction h with
  | start h1 h2 => exact .start h1 (swp_m (by omega) h2)
  | @step j j' b h0 h1 h2 h3 h4 ih =>
    have hb := hs.lot j b h0.lt h2
    have hba : b ≠ a := fun e => h1 (hs.inj j i a h0.lt hi (e ▸ h2) hia)
    exact .step ih h1 h2 h3 (swp_o hba (by omega) h4)
theorem rx_no {n m a i : Nat} {σ τ : Nat → Option Nat} (hs : Val n m σ) (ha : a < m) (hi : i < n) (hia : σ i = some a) {j : Nat} (h : Rx n m i σ τ j) : ¬ Rx n a i σ τ j := by
  induction h with
  | @start j h1 h2 =>
    intro h
    cases h with
    | start _ h3 => rw [h2] at h3; injection h3 with h3; omega
    | step h3 _ h4 _ h5 =>
      rw [h2] at h5; injection h5 with h5
      have := hs.lot _ _ h3.lt h4; omega
  | @step j j' b h0 h1 h2 h3 h4 ih =>
    intro h
    cases h with
    | start _ h5 =>
      rw [h4] at h5; injection h5 with h5
      exact h1 (hs.inj j i a h0.lt hi (h5 ▸ h2) hia)
    | step h5 _ h6 _ h7 =>
      rw [h4] at h7; injection h7 with h7
      subst h7
      have := hs.inj _ _ _ h5.lt h0.lt h6 h2
      subst this
      exact ih h5
/-- the most that others can get without bidder i -/
structure IsMaxO (n m i : Nat) (w : Nat → Nat → Int) (M : Int) : Prop where
  at_ : ∃ σ, Val n m σ ∧ σ i = none ∧ wt n w σ = M
  le : ∀ σ, Val n m σ → σ i = none → wt n w σ ≤ M
def drp (i : Nat) (σ : Nat → Option Nat) : Nat → Option Nat := fun k => if k = i then none else σ k
theorem drp_val {n m i : Nat} {σ : Nat → Option Nat} (h : Val n m σ) : Val n m (drp i σ) := by
  refine ⟨fun k j hk e => ?_, fun k k' j hk hk' e e' => ?_⟩
  · unfold drp at e; split at e
    · cases e
    · exact h.lot k j hk e
  · unfold drp at e e'
    split at e
    · cases e
    · split at e'
      · cases e'
      · exact h.inj k k' j hk hk' e e'
theorem drp_wt {n i : Nat} (w : Nat → Nat → Int) (σ : Nat → Option Nat) (hi : i < n) : wt n w (drp i σ) = wt n w σ - gt w i (σ i) := by
  unfold wt
  rw [sumN_upd (fun k => gt w k (drp i σ k)) (fun k => gt w k (σ k)) hi (fun k _ hne => by simp only [drp, if_neg hne])]
  simp only [drp]; simp [gt]
/-- another lot like the one that a bidder gets is worth as much as the bidder's being away, and the bidder's value -/
theorem vick {n m a i : Nat} {w : Nat → Nat → Int} {M Ma Mi : Int} {σ : Nat → Option Nat} (hs : Val n m σ) (hM : IsMax n m w M) (hMa : IsMax n (m + 1) (dup m a w) Ma) (hMi : IsMaxO n m i w Mi) (ho : wt n w σ = M) (hi : i < n) (hia : σ i = some a) : Ma = Mi + w i a := by
  have ha := hs.lot i a hi hia
  obtain ⟨τ, ht, hτ⟩ := hMa.at_
  have up : Mi + w i a ≤ Ma := by
    obtain ⟨ρ, h1, h2, h3⟩ := hMi.at_
    have hv : Val n (m + 1) (fun k => if k = i then some m else ρ k) := by
      refine ⟨fun k j hk e => ?_, fun k k' j hk hk' e e' => ?_⟩
      · split at e
        · injection e with e; omega
        · have := h1.lot k j hk e; omega
      · skip
        split at e <;> split at e'
        · omega
        · injection e with e; subst e; have := h1.lot k' _ hk' e'; omega
        · injection e' with e'; subst e'; have := h1.lot k _ hk e; omega
        · exact h1.inj k k' j hk hk' e e'
    have h4 := hMa.le _ hv
    have h5 : wt n (dup m a w) (fun k => if k = i then some m else ρ k) = wt n w ρ - 0 + w i a := by
      unfold wt
      rw [sumN_upd _ (fun k => gt w k (ρ k)) hi (fun k hk hne => by
        simp only [if_neg hne]
        cases h : ρ k with
        | none => rfl
        | some j => exact dup_lt k j (h1.lot k j hk h))]
      simp only [h2]; simp [gt, dup]
    omega
  have one : ∀ τ, Val n (m + 1) τ → wt n (dup m a w) τ = Ma → ¬ Dx n m σ τ i → Ma ≤ Mi + w i a := by
    intro τ ht hτ hd
    have e := x_sum w (dup m a w) hs ht (fun i j hj => dup_lt i j hj)
    have h1 := hM.le _ (xt_val hs ht)
    have hv := xs_val hs ht
    have hxi : xs n m σ τ i = some a := by rw [xs_n hd]; exact hia
    have hd2 := drp_wt (dup m a w) (xs n m σ τ) hi
    rw [hxi] at hd2
    have h2 := hMi.le (undup m a (drp i (xs n m σ τ))) (undup_val (drp_val hv) ha (fun k hk e => by
      unfold drp at e
      split at e
      · cases e
      · rename_i hne; exact hne (hv.inj k i a hk hi e hxi))) (by simp [undup, drp])
    rw [undup_wt, hd2] at h2
    have h3 : gt (dup m a w) i (some a) = w i a := dup_lt i a ha
    omega
  refine Int.le_antisymm ?_ up
  by_cases d : Dx n m σ τ i
  · refine one (swp a m τ) (swp_val ht ha) (by rw [swp_wt]; exact hτ) (fun d' => ?_)
    have r1 : Rx n m i σ τ i := (dx_rx d).elim id id
    have r2 : Rx n m i σ (swp a m τ) i := (dx_rx d').elim id id
    exact rx_no hs ha hi hia r1 (rx_swp hs ha hi hia r2)
  · exact one τ ht hτ d
/-- with a bidder more, or one lot's worth more, another lot like k is worth no less -/
theorem more_bidder {n m k : Nat} {w : Nat → Nat → Int} {M Mk N Nk : Int} (hM : IsMax n m w M) (hMk : IsMax n (m + 1) (dup m k w) Mk) (hN : IsMax (n + 1) m w N) (hNk : IsMax (n + 1) (m + 1) (dup m k w) Nk) : Mk - M ≤ Nk - N := by
  obtain ⟨τ, ht, hτ⟩ := hMk.at_
  obtain ⟨σ, hs, hσ⟩ := hN.at_
  have ext : ∀ {m' : Nat} {w' : Nat → Nat → Int} {ρ : Nat → Option Nat}, Val n m' ρ → Val (n + 1) m' (drp n ρ) ∧ wt (n + 1) w' (drp n ρ) = wt n w' ρ := by
    intro m' w' ρ h
    have hlt : ∀ k j, drp n ρ k = some j → k ≠ n ∧ ρ k = some j := by
      intro k j e; unfold drp at e; split at e
      · cases e
      · rename_i hne; exact ⟨hne, e⟩
    refine ⟨⟨fun k j hk e => h.lot k j (by have := (hlt k j e).1; omega) (hlt k j e).2, fun k k' j hk hk' e e' => h.inj k k' j (by have := (hlt k j e).1; omega) (by have := (hlt k' j e').1; omega) (hlt k j e).2 (hlt k' j e').2⟩, ?_⟩
    unfold wt
    rw [sumN]
    have : gt w' n (drp n ρ n) = 0 := by simp [drp, gt]
    rw [this, Int.add_zero]
    exact sumN_congr fun i hi => by simp only [drp]; rw [if_neg (by omega)]
  have et := ext (w' := dup m k w) ht
  have e := x_sum w (dup m k w) hs et.1 (fun i j hj => dup_lt i j hj)
  have h1 := hNk.le _ (xs_val hs et.1)
  have hxn : xt (n + 1) m σ (drp n τ) n = none := by
    have : ¬ Dx (n + 1) m σ (drp n τ) n := fun d => d.some (by simp [drp])
    rw [xt_n this]; simp [drp]
  have hv := xt_val hs et.1
  have h2 := hM.le (xt (n + 1) m σ (drp n τ)) ⟨fun i j hi => hv.lot i j (by omega), fun i i' j hi hi' => hv.inj i i' j (by omega) (by omega)⟩
  have h3 : wt (n + 1) w (xt (n + 1) m σ (drp n τ)) = wt n w (xt (n + 1) m σ (drp n τ)) := by
    unfold wt; rw [sumN, hxn]; simp [gt]
  rw [et.2] at e
  omega

/-! ### Prices -/
/-- an award (who gets what, at so much above the reserve of each lot) that is fair -/
structure FairA (n m : Nat) (w : Nat → Nat → Int) (σ : Nat → Option Nat) (q : Nat → Int) : Prop where
  val : Val n m σ
  nn : ∀ j, j < m → 0 ≤ q j
  un : ∀ j, j < m → (∀ i, i < n → σ i ≠ some j) → q j = 0
  ir : ∀ i j, i < n → σ i = some j → q j ≤ w i j
  ef : ∀ i j, i < n → j < m → w i j - q j ≤ gt (fun i j => w i j - q j) i (σ i)
/-- what is paid above the reserves, summed by lots or by bidders -/
theorem sum_img {n m : Nat} {σ : Nat → Option Nat} (q : Nat → Int) (h : Val n m σ) (h0 : ∀ j, j < m → 0 ≤ q j) : sumN n (fun i => gt (fun _ j => q j) i (σ i)) ≤ sumN m q := by
  induction n generalizing q with
  | zero =>
    rw [sumN]
    have := sumN_le (n := m) (f := fun _ => 0) (g := q) h0
    rw [sumN_zero] at this; exact this
  | succ n ih =>
    rw [sumN]
    have hv : Val n m σ := ⟨fun i j hi => h.lot i j (by omega), fun i i' j hi hi' => h.inj i i' j (by omega) (by omega)⟩
    cases hn : σ n with
    | none => have := ih q hv h0; show _ + (0 : Int) ≤ _; omega
    | some j =>
      have hj := h.lot n j (by omega) hn
      have := ih (fun k => if k = j then 0 else q k) hv (fun k hk => by split; omega; exact h0 k hk)
      rw [sumN_upd (fun k => if k = j then 0 else q k) q hj (fun k _ hne => by simp only [if_neg hne])] at this
      rw [if_pos rfl] at this
      have e : sumN n (fun i => gt (fun _ k => if k = j then 0 else q k) i (σ i)) = sumN n (fun i => gt (fun _ k => q k) i (σ i)) := sumN_congr fun i hi => by
        cases hi' : σ i with
        | none => rfl
        | some k =>
          show (if k = j then 0 else q k) = q k
          rw [if_neg]
          rintro rfl
          have := h.inj i n k (by omega) (by omega) hi' hn
          omega
      rw [e] at this
      show _ + q j ≤ _
      omega
theorem sum_img_eq {n m : Nat} {σ : Nat → Option Nat} (q : Nat → Int) (h : Val n m σ) (h0 : ∀ j, j < m → (∀ i, i < n → σ i ≠ some j) → q j = 0) : sumN n (fun i => gt (fun _ j => q j) i (σ i)) = sumN m q := by
  induction n generalizing q with
  | zero =>
    rw [sumN, sumN_congr (g := fun _ => 0) (fun j hj => h0 j hj (fun i hi => absurd hi (Nat.not_lt_zero i))), sumN_zero]
  | succ n ih =>
    rw [sumN]
    have hv : Val n m σ := ⟨fun i j hi => h.lot i j (by omega), fun i i' j hi hi' => h.inj i i' j (by omega) (by omega)⟩
    cases hn : σ n with
    | none =>
      have := ih q hv (fun j hj hno => h0 j hj (fun i hi e => by
        by_cases hin : i = n
        · rw [hin, hn] at e; cases e
        · exact hno i (by omega) e))
      show _ + (0 : Int) = _; omega
    | some j =>
      have hj := h.lot n j (by omega) hn
      have := ih (fun k => if k = j then 0 else q k) hv (fun k hk hno => by
        split
        · rfl
        · rename_i hne
          exact h0 k hk (fun i hi e => by
            by_cases hin : i = n
            · rw [hin, hn] at e; injection e with e; exact hne e.symm
            · exact hno i (by omega) e))
      rw [sumN_upd (fun k => if k = j then 0 else q k) q hj (fun k _ hne => by simp only [if_neg hne])] at this
      rw [if_pos rfl] at this
      have e : sumN n (fun i => gt (fun _ k => if k = j then 0 else q k) i (σ i)) = sumN n (fun i => gt (fun _ k => q k) i (σ i)) := sumN_congr fun i hi => by
        cases hi' : σ i with
        | none => rfl
        | some k =>
          show (if k = j then 0 else q k) = q k
          rw [if_neg]
          rintro rfl
          have := h.inj i n k (by omega) (by omega) hi' hn
          omega
      rw [e] at this
      show _ + q j = _
      omega
theorem wt_split {n : Nat} {w : Nat → Nat → Int} {q : Nat → Int} {σ : Nat → Option Nat} : wt n w σ = sumN n (fun i => gt (fun i j => w i j - q j) i (σ i)) + sumN n (fun i => gt (fun _ j => q j) i (σ i)) := by
  unfold wt
  rw [← sumN_add]
  refine sumN_congr fun i _ => ?_
  cases σ i with
  | none => rfl
  | some j => show w i j = w i j - q j + q j; omega
theorem FairA.gain {n m : Nat} {w : Nat → Nat → Int} {σ : Nat → Option Nat} {q : Nat → Int} (h : FairA n m w σ q) {i : Nat} (hi : i < n) : 0 ≤ gt (fun i j => w i j - q j) i (σ i) := by
  cases e : σ i with
  | none => exact Int.le_refl _
  | some j => have := h.ir i j hi e; show 0 ≤ w i j - q j; omega
/-- the worth of a fair award is the sum of all gains and prices -/
theorem FairA.sum {n m : Nat} {w : Nat → Nat → Int} {σ : Nat → Option Nat} {q : Nat → Int} (h : FairA n m w σ q) : wt n w σ = sumN n (fun i => gt (fun i j => w i j - q j) i (σ i)) + sumN m q := by
  rw [wt_split (q := q), sum_img_eq q h.val h.un]
theorem FairA.bound {n m : Nat} {w : Nat → Nat → Int} {σ : Nat → Option Nat} {q : Nat → Int} (h : FairA n m w σ q) {τ : Nat → Option Nat} {m' : Nat} {q' : Nat → Int} {w' : Nat → Nat → Int} (ht : Val n m' τ) (hq : ∀ j, j < m' → 0 ≤ q' j) (hw : ∀ i j, i < n → j < m' → w' i j - q' j ≤ gt (fun i j => w i j - q j) i (σ i)) :
    wt n w' τ ≤ sumN n (fun i => gt (fun i j => w i j - q j) i (σ i)) + sumN m' q' := by
  rw [wt_split (q := q')]
  have h1 := sum_img q' ht hq
  have h2 : sumN n (fun i => gt (fun i j => w' i j - q' j) i (τ i)) ≤ sumN n (fun i => gt (fun i j => w i j - q j) i (σ i)) := by
    refine sumN_le fun i hi => ?_
    cases e : τ i with
    | none => exact h.gain hi
    | some j => exact hw i j hi (ht.lot i j hi e)
  omega
/-- a fair award is worth most, and its prices are at least what another lot of the kind would be worth -/
theorem FairA.best {n m : Nat} {w : Nat → Nat → Int} {σ : Nat → Option Nat} {q : Nat → Int} (h : FairA n m w σ q) {M : Int} (hM : IsMax n m w M) : wt n w σ = M := by
  obtain ⟨τ, ht, hτ⟩ := hM.at_
  have h1 := hM.le σ h.val
  have h2 := h.bound ht h.nn (fun i j hi hj => h.ef i j hi hj)
  rw [← h.sum] at h2
  omega
theorem FairA.least {n m k : Nat} {w : Nat → Nat → Int} {σ : Nat → Option Nat} {q : Nat → Int} (h : FairA n m w σ q) {M Mk : Int} (hM : IsMax n m w M) (hMk : IsMax n (m + 1) (dup m k w) Mk) (hk : k < m) : Mk - M ≤ q k := by
  obtain ⟨τ, ht, hτ⟩ := hMk.at_
  have h2 := h.bound (q' := fun j => if j = m then q k else q j) (w' := dup m k w) ht (fun j hj => by split; exact h.nn k hk; exact h.nn j (by omega)) (fun i j hi hj => by
    unfold dup
    split
    · exact h.ef i k hi hk
    · exact h.ef i j hi (by omega))
  rw [sumN, sumN_congr (n := m) (f := fun j => if j = m then q k else q j) (g := q) (fun j hj => by rw [if_neg (by omega)]), if_pos rfl] at h2
  have h3 := h.best hM
  rw [h.sum] at h3
  omega
/-- without bidder i: there is a greatest worth -/
theorem maxO {n m i : Nat} {w : Nat → Nat → Int} {B : Int} (hB : ∀ σ, Val n m σ → σ i = none → wt n w σ ≤ B) : ∃ M, IsMaxO n m i w M := by
  have key : ∀ (d : Nat) (σ : Nat → Option Nat), Val n m σ → σ i = none → B - wt n w σ ≤ d → ∃ M, IsMaxO n m i w M := by
    intro d
    induction d with
    | zero => intro σ h1 h2 h3; exact ⟨wt n w σ, ⟨σ, h1, h2, rfl⟩, fun τ h4 h5 => by have := hB τ h4 h5; omega⟩
    | succ d ih =>
      intro σ h1 h2 h3
      by_cases h : ∃ τ, Val n m τ ∧ τ i = none ∧ wt n w σ < wt n w τ
      · obtain ⟨τ, h4, h5, h6⟩ := h
        exact ih τ h4 h5 (by omega)
      · exact ⟨wt n w σ, ⟨σ, h1, h2, rfl⟩, fun τ h4 h5 => Int.not_lt.1 (fun h6 => h ⟨τ, h4, h5, h6⟩)⟩
  have hv : Val n m (fun _ => none) := ⟨fun _ _ _ h => (by cases h), fun _ _ _ _ _ h => (by cases h)⟩
  exact key (B - wt n w (fun _ => none)).toNat _ hv rfl (by omega)
theorem maxO_of {n m i : Nat} {w : Nat → Nat → Int} {M : Int} (hM : IsMax n m w M) : ∃ Mi, IsMaxO n m i w Mi ∧ Mi ≤ M := by
  obtain ⟨Mi, h⟩ := maxO (i := i) (fun σ h1 _ => hM.le σ h1)
  obtain ⟨σ, h1, h2, h3⟩ := h.at_
  exact ⟨Mi, h, by have := hM.le σ h1; omega⟩
/-- the least prices are fair with any best award -/
theorem fair_least {n m : Nat} {w : Nat → Nat → Int} {M : Int} {σ : Nat → Option Nat} {P : Nat → Int} (hM : IsMax n m w M) (hP : ∀ k, k < m → IsMax n (m + 1) (dup m k w) (P k)) (hs : Val n m σ) (ho : wt n w σ = M) : FairA n m w σ (fun k => P k - M) := by
  have emb : ∀ {τ : Nat → Option Nat} {k : Nat}, Val n m τ → Val n (m + 1) τ ∧ wt n (dup m k w) τ = wt n w τ := by
    intro τ k h
    refine ⟨⟨fun i j hi e => by have := h.lot i j hi e; omega, h.inj⟩, ?_⟩
    unfold wt
    refine sumN_congr fun i hi => ?_
    cases e : τ i with
    | none => rfl
    | some j => exact dup_lt i j (h.lot i j hi e)
  have put : ∀ {τ : Nat → Option Nat} {i k : Nat}, Val n m τ → τ i = none → i < n → k < m → Val n (m + 1) (fun b => if b = i then some m else τ b) ∧ wt n (dup m k w) (fun b => if b = i then some m else τ b) = wt n w τ + w i k := by
    intro τ i k h h0 hi hk
    refine ⟨⟨fun b j hb e => ?_, fun b b' j hb hb' e e' => ?_⟩, ?_⟩
    · split at e
      · injection e with e; omega
      · have := h.lot b j hb e; omega
    · split at e <;> split at e'
      · omega
      · injection e with e; subst e; have := h.lot b' _ hb' e'; omega
      · injection e' with e'; subst e'; have := h.lot b _ hb e; omega
      · exact h.inj b b' j hb hb' e e'
    · unfold wt
      rw [sumN_upd _ (fun b => gt w b (τ b)) hi (fun b hb hne => by
        simp only [if_neg hne]
        cases e : τ b with
        | none => rfl
        | some j => exact dup_lt b j (h.lot b j hb e))]
      simp only [h0]
      show _ - 0 + dup m k w i m = _
      unfold dup; rw [if_pos rfl]; omega
  refine ⟨hs, fun k hk => ?_, fun k hk hno => ?_, fun i k hi e => ?_, fun i k hi hk => ?_⟩
  · have := (hP k hk).le σ (emb (k := k) hs).1; rw [(emb hs).2] at this; omega
  · have h1 := unsold hs hM (hP k hk) ho hk hno
    have := (hP k hk).le σ (emb (k := k) hs).1; rw [(emb hs).2] at this; omega
  · have hk := hs.lot i k hi e
    obtain ⟨Mi, h1, h2⟩ := maxO_of (i := i) hM
    have := vick hs hM (hP k hk) h1 ho hi e
    omega
  · cases e : σ i with
    | none =>
      have h1 := put (k := k) hs e hi hk
      have := (hP k hk).le _ h1.1
      rw [h1.2] at this
      show w i k - (P k - M) ≤ 0
      omega
    | some a =>
      have ha := hs.lot i a hi e
      obtain ⟨Mi, h1, h2⟩ := maxO_of (i := i) hM
      have h3 := vick hs hM (hP a ha) h1 ho hi e
      obtain ⟨ρ, r1, r2, r3⟩ := h1.at_
      have h4 := put (k := k) r1 r2 hi hk
      have h5 := (hP k hk).le _ h4.1
      rw [h4.2] at h5
      show w i k - (P k - M) ≤ w i a - (P a - M)
      omega
/-- nobody gains by a lie -/
theorem truth {n m i : Nat} {w w' : Nat → Nat → Int} {M M' : Int} {σ σ' : Nat → Option Nat} {P P' : Nat → Int} (hi : i < n) (hw : ∀ k, k < n → k ≠ i → ∀ j, w' k j = w k j)
    (hM : IsMax n m w M) (hP : ∀ k, k < m → IsMax n (m + 1) (dup m k w) (P k)) (hs : Val n m σ) (ho : wt n w σ = M)
    (hM' : IsMax n m w' M') (hP' : ∀ k, k < m → IsMax n (m + 1) (dup m k w') (P' k)) (hs' : Val n m σ') (ho' : wt n w' σ' = M') :
    gt (fun i j => w i j - (P' j - M')) i (σ' i) ≤ gt (fun i j => w i j - (P j - M)) i (σ i) := by
  have hf := fair_least hM hP hs ho
  have h0 := hf.gain hi
  cases e' : σ' i with
  | none => exact h0
  | some b =>
    have hb := hs'.lot i b hi e'
    obtain ⟨Mi, h1, h2⟩ := maxO_of (i := i) hM
    have h1' : IsMaxO n m i w' Mi := by
      have eq : ∀ τ : Nat → Option Nat, τ i = none → wt n w' τ = wt n w τ := by
        intro τ h
        unfold wt
        refine sumN_congr fun k hk => ?_
        by_cases hki : k = i
        · rw [hki, h]; rfl
        · cases τ k with
          | none => rfl
          | some j => exact hw k hk hki j
      obtain ⟨ρ, r1, r2, r3⟩ := h1.at_
      exact ⟨⟨ρ, r1, r2, by rw [eq ρ r2]; exact r3⟩, fun τ t1 t2 => by rw [eq τ t2]; exact h1.le τ t1 t2⟩
    have v := vick hs' hM' (hP' b hb) h1' ho' hi e'
    -- what the others have in the award of the lie
    have d := drp_wt (n := n) w σ' hi
    have d' := drp_wt (n := n) w' σ' hi
    have eqd : wt n w' (drp i σ') = wt n w (drp i σ') := by
      unfold wt
      refine sumN_congr fun k hk => ?_
      by_cases hki : k = i
      · rw [hki]; simp [drp, gt]
      · cases drp i σ' k with
        | none => rfl
        | some j => exact hw k hk hki j
    have le := hM.le σ' hs'
    rw [e'] at d d'
    simp only [gt] at d d'
    have main : M' - w' i b + w i b ≤ M := by omega
    have hy : w i b - (P' b - M') ≤ M - Mi := by omega
    cases e : σ i with
    | none =>
      have : M ≤ Mi := by rw [← ho]; exact h1.le σ hs e
      show w i b - (P' b - M') ≤ 0
      omega
    | some a =>
      have v2 := vick hs hM (hP a (hs.lot i a hi e)) h1 ho hi e
      show w i b - (P' b - M') ≤ w i a - (P a - M)
      omega
/-- another lot is worth at most what somebody would give for it -/
theorem price_le {n m k : Nat} {w : Nat → Nat → Int} {M Mk V : Int} (hM : IsMax n m w M) (hMk : IsMax n (m + 1) (dup m k w) Mk) (h0 : 0 ≤ V) (hV : ∀ i, i < n → w i k ≤ V) : Mk - M ≤ V := by
  obtain ⟨τ, ht, hτ⟩ := hMk.at_
  have clean : ∀ ρ, Val n (m + 1) ρ → (∀ i, i < n → ρ i ≠ some m) → wt n (dup m k w) ρ ≤ M := by
    intro ρ h hno
    have hv : Val n m ρ := ⟨fun i j hi e => by
      have := h.lot i j hi e
      have : j ≠ m := fun e2 => hno i hi (e2 ▸ e)
      omega, h.inj⟩
    have := hM.le ρ hv
    have e : wt n (dup m k w) ρ = wt n w ρ := by
      unfold wt
      refine sumN_congr fun i hi => ?_
      cases e : ρ i with
      | none => rfl
      | some j => exact dup_lt i j (hv.lot i j hi e)
    omega
  by_cases h : ∃ i, i < n ∧ τ i = some m
  · obtain ⟨i, hi, e⟩ := h
    have d := drp_wt (dup m k w) τ hi
    rw [e] at d
    have h1 := clean (drp i τ) (drp_val ht) (fun j hj e2 => by
      unfold drp at e2
      split at e2
      · cases e2
      · rename_i hne; exact hne (ht.inj j i m hj hi e2 e))
    have h2 := hV i hi
    have h3 : gt (dup m k w) i (some m) = w i k := by show dup m k w i m = _; unfold dup; rw [if_pos rfl]
    omega
  · have := clean τ ht (fun i hi e => h ⟨i, hi, e⟩)
    omega
/-- with a greater reserve of a lot (so much less above it) no price is less: d is by how much the reserve of lot c grows -/
theorem more_reserve {n m k c : Nat} {w w' : Nat → Nat → Int} {d M Mk N Nk : Int} (hd : 0 ≤ d) (hw : ∀ i j, w' i j = w i j - (if j = c then d else 0))
    (hM : IsMax n m w M) (hMk : IsMax n (m + 1) (dup m k w) Mk) (hN : IsMax n m w' N) (hNk : IsMax n (m + 1) (dup m k w') Nk) : Mk - M ≤ Nk - N + (if k = c then d else 0) := by
  obtain ⟨τ, ht, hτ⟩ := hMk.at_
  obtain ⟨σ, hs, hσ⟩ := hN.at_
  have e := x_sum w (dup m k w) hs ht (fun i j hj => dup_lt i j hj)
  have h1 := hNk.le _ (xs_val hs ht)
  have h2 := hM.le _ (xt_val hs ht)
  -- how many get lot c
  have cost : ∀ (m' : Nat) (w0 w1 : Nat → Nat → Int) (f : Nat → Int) (ρ : Nat → Option Nat), (∀ i j, w1 i j = w0 i j - f j) → wt n w0 ρ = wt n w1 ρ + sumN n (fun i => gt (fun _ j => f j) i (ρ i)) := by
    intro m' w0 w1 f ρ h
    unfold wt
    rw [← sumN_add]
    refine sumN_congr fun i _ => ?_
    cases ρ i with
    | none => rfl
    | some j => show w0 i j = w1 i j + f j; rw [h]; omega
  have c1 := cost m w w' (fun j => if j = c then d else 0) σ (fun i j => hw i j)
  have c2 := cost (m + 1) (dup m k w) (dup m k w') (fun j => if (if j = m then k else j) = c then d else 0) (xs n m σ τ) (fun i j => by unfold dup; rw [hw])
  -- the copy costs at most one more
  have c3 : sumN n (fun i => gt (fun _ j => if (if j = m then k else j) = c then d else 0) i (xs n m σ τ i)) ≤ sumN n (fun i => gt (fun _ j => if j = c then d else 0) i (σ i)) + (if k = c then d else 0) := by
    have hx := xs_val hs ht
    -- over lots
    have i1 := sum_img_eq (n := n) (m := m) (σ := σ) (fun j => if (∃ i, i < n ∧ σ i = some j) then (if j = c then d else 0) else 0) hs (fun j hj hno => by
      rw [if_neg]; rintro ⟨i, hi, e⟩; exact hno i hi e)
    have i2 : sumN n (fun i => gt (fun _ j => if (∃ i, i < n ∧ σ i = some j) then (if j = c then d else 0) else 0) i (σ i)) = sumN n (fun i => gt (fun _ j => if j = c then d else 0) i (σ i)) := sumN_congr fun i hi => by
      cases e : σ i with
      | none => rfl
      | some j => exact if_pos ⟨i, hi, e⟩
    have i3 := sum_img (n := n) (m := m + 1) (σ := xs n m σ τ) (fun j => if j = m then (if k = c then d else 0) else if (∃ i, i < n ∧ σ i = some j) then (if j = c then d else 0) else 0) hx (fun j hj => by
      repeat' split
      all_goals omega)
    have i4 : sumN n (fun i => gt (fun _ j => if j = m then (if k = c then d else 0) else if (∃ i, i < n ∧ σ i = some j) then (if j = c then d else 0) else 0) i (xs n m σ τ i)) = sumN n (fun i => gt (fun _ j => if (if j = m then k else j) = c then d else 0) i (xs n m σ τ i)) := sumN_congr fun i hi => by
      cases e : xs n m σ τ i with
      | none => rfl
      | some j =>
        show (if j = m then _ else _) = (if (if j = m then k else j) = c then d else 0)
        by_cases hj : j = m
        · rw [if_pos hj, if_pos hj]
        · have := hx.lot i j hi e
          rw [if_neg hj, if_neg hj, if_pos (xs_img hi (by omega) e)]
    rw [i4, sumN] at i3
    rw [if_pos rfl] at i3
    rw [sumN_congr (n := m) (f := fun j => if j = m then (if k = c then d else 0) else if (∃ i, i < n ∧ σ i = some j) then (if j = c then d else 0) else 0) (g := fun j => if (∃ i, i < n ∧ σ i = some j) then (if j = c then d else 0) else 0) (fun j hj => by rw [if_neg (by omega)])] at i3
    omega
  omega
end Am
namespace Am

theorem sumN_left (n : Nat) (f : Nat → Int) : sumN (n + 1) f = f 0 + sumN n (fun i => f (i + 1)) := by
  induction n with
  | zero => simp [sumN]
  | succ n ih => rw [sumN, ih, sumN]; omega
theorem IsMax.congr {n m : Nat} {w w' : Nat → Nat → Int} {M : Int} (h : IsMax n m w M) (e : ∀ i j, i < n → j < m → w i j = w' i j) : IsMax n m w' M := by
  have key : ∀ σ, Val n m σ → wt n w' σ = wt n w σ := fun σ hs => sumN_congr fun i hi => by
    cases hσ : σ i with
    | none => rfl
    | some j => exact (e i j hi (hs.lot i j hi hσ)).symm
  obtain ⟨σ, h1, h2⟩ := h.at_
  exact ⟨⟨σ, h1, (key σ h1).trans h2⟩, fun σ hs => by rw [key σ hs]; exact h.le σ hs⟩
/-- what a list says: who gets which lot -/
def sig (to : List Int) : Nat → Option Nat := fun i => match to[i]? with
  | some k => if 0 ≤ k then some k.toNat else none
  | none => none
theorem sig_some {to : List Int} {i j : Nat} : sig to i = some j ↔ to[i]? = some (j : Int) := by
  unfold sig
  cases h : to[i]? with
  | none => simp
  | some k =>
    by_cases h0 : 0 ≤ k
    · simp only [if_pos h0, Option.some.injEq]; omega
    · simp only [if_neg h0, Option.some.injEq]
      constructor
      · intro h; cases h
      · intro h; omega
/-- a list of lots, none twice -/
structure OkL (m : Nat) (so : List Int) : Prop where
  rng : ∀ k ∈ so, -1 ≤ k ∧ k < m
  nd : (so.filter (fun k => decide (0 ≤ k))).Nodup
theorem OkL.nil (m : Nat) : OkL m [] := ⟨fun _ h => (by cases h), by simp⟩
theorem OkL.snoc {m : Nat} {so : List Int} {k : Int} : OkL m (so ++ [k]) ↔ OkL m so ∧ (-1 ≤ k ∧ k < m) ∧ (0 ≤ k → k ∉ so) := by
  constructor
  · intro ⟨h1, h2⟩
    rw [List.filter_append] at h2
    have h3 := List.nodup_append.1 h2
    refine ⟨⟨fun q hq => h1 q (List.mem_append_left _ hq), h3.1⟩, h1 k (by simp), fun h0 hk => ?_⟩
    exact h3.2.2 k (List.mem_filter.2 ⟨hk, by simpa using h0⟩) k (by simp [h0]) rfl
  · intro ⟨⟨h1, h2⟩, h3, h4⟩
    refine ⟨fun q hq => ?_, ?_⟩
    · rcases List.mem_append.1 hq with e | e
      · exact h1 q e
      · simp at e; rw [e]; exact h3
    · rw [List.filter_append]
      by_cases h0 : 0 ≤ k
      · rw [show [k].filter (fun k => decide (0 ≤ k)) = [k] by simp [h0]]
        refine List.nodup_append.2 ⟨h2, by simp, fun a ha b hb => ?_⟩
        simp at hb; rw [hb]
        exact fun e => h4 h0 (e ▸ (List.mem_filter.1 ha).1)
      · rw [show [k].filter (fun k => decide (0 ≤ k)) = [] by simp [h0], List.append_nil]; exact h2
theorem OkL.pre {m : Nat} {a b : List Int} (h : OkL m (a ++ b)) : OkL m a :=
  ⟨fun k hk => h.rng k (List.mem_append_left _ hk), by have := h.nd; rw [List.filter_append] at this; exact (List.nodup_append.1 this).1⟩
theorem ok_inj {m : Nat} : ∀ {to : List Int}, OkL m to → ∀ {i i' : Nat} {k : Int}, to[i]? = some k → to[i']? = some k → 0 ≤ k → i = i'
  | [], _, i, i', k, h, _, _ => by simp at h
  | a :: to, hk, i, i', k, h, h', h0 => by
    have hs : OkL m to ∧ (0 ≤ a → a ∉ to) := by
      refine ⟨⟨fun q hq => hk.rng q (List.mem_cons_of_mem _ hq), ?_⟩, fun h0 hm => ?_⟩
      · have := hk.nd; rw [List.filter_cons] at this
        split at this
        · exact (List.nodup_cons.1 this).2
        · exact this
      · have := hk.nd; rw [List.filter_cons, if_pos (by simpa using h0)] at this
        exact (List.nodup_cons.1 this).1 (List.mem_filter.2 ⟨hm, by simpa using h0⟩)
    cases i with
    | zero =>
      cases i' with
      | zero => rfl
      | succ i' =>
        simp at h h'
        rw [h] at hs
        exact absurd (List.mem_of_getElem? h') (hs.2 h0)
    | succ i =>
      cases i' with
      | zero =>
        simp at h h'
        rw [h'] at hs
        exact absurd (List.mem_of_getElem? h) (hs.2 h0)
      | succ i' =>
        simp at h h'
        rw [ok_inj hs.1 h h' h0]
theorem ok_of {m : Nat} {to : List Int} (h1 : ∀ k ∈ to, -1 ≤ k ∧ k < m) (h2 : ∀ (i i' : Nat) (k : Int), to[i]? = some k → to[i']? = some k → 0 ≤ k → i = i') : OkL m to := by
  refine ⟨h1, ?_⟩
  clear h1
  induction to with
  | nil => simp
  | cons a to ih =>
    have hi := ih (fun i i' k h h' h0 => by have := h2 (i + 1) (i' + 1) k (by simpa using h) (by simpa using h') h0; omega)
    rw [List.filter_cons]
    by_cases h0 : 0 ≤ a
    · rw [if_pos (by simpa using h0)]
      refine List.nodup_cons.2 ⟨fun hm => ?_, hi⟩
      obtain ⟨i, hi'⟩ := List.mem_iff_getElem?.1 (List.mem_filter.1 hm).1
      have := h2 0 (i + 1) a (by simp) (by simpa using hi') h0
      omega
    · rw [if_neg (by simpa using h0)]; exact hi
theorem sig_val {m : Nat} {to : List Int} (h : OkL m to) : Val to.length m (sig to) := by
  refine ⟨fun i j _ e => ?_, fun i i' j _ _ e e' => ?_⟩
  · have := h.rng _ (List.mem_of_getElem? (sig_some.1 e)); omega
  · exact ok_inj h (sig_some.1 e) (sig_some.1 e') (by omega)
/-- the list of an award -/
def lst (n : Nat) (σ : Nat → Option Nat) : List Int := (List.range n).map (fun i => match σ i with | none => -1 | some j => (j : Int))
theorem lst_len (n : Nat) (σ : Nat → Option Nat) : (lst n σ).length = n := by simp [lst]
theorem lst_get {n : Nat} {σ : Nat → Option Nat} {i : Nat} (hi : i < n) : (lst n σ)[i]? = some (match σ i with | none => -1 | some j => (j : Int)) := by
  unfold lst; rw [List.getElem?_map, List.getElem?_range hi]; rfl
theorem lst_sig {n : Nat} {σ : Nat → Option Nat} {i : Nat} (hi : i < n) : sig (lst n σ) i = σ i := by
  unfold sig; rw [lst_get hi]
  cases h : σ i with
  | none => rfl
  | some j => simp only; rw [if_pos (by omega)]; simp
theorem lst_ok {n m : Nat} {σ : Nat → Option Nat} (h : Val n m σ) : OkL m (lst n σ) := by
  refine ok_of (fun k hk => ?_) (fun i i' k hi hi' h0 => ?_)
  · obtain ⟨i, hi, e⟩ := List.mem_map.1 hk
    have hin := List.mem_range.1 hi
    cases hs : σ i with
    | none => rw [hs] at e; simp only at e; omega
    | some j => rw [hs] at e; simp only at e; have := h.lot i j hin hs; omega
  · have hl := (List.getElem?_eq_some_iff.1 hi).1
    have hl' := (List.getElem?_eq_some_iff.1 hi').1
    rw [lst_len] at hl hl'
    rw [lst_get hl] at hi; rw [lst_get hl'] at hi'
    cases hs : σ i with
    | none => rw [hs] at hi; simp at hi; omega
    | some j =>
      cases hs' : σ i' with
      | none => rw [hs'] at hi'; simp at hi'; omega
      | some j' =>
        rw [hs] at hi; rw [hs'] at hi'
        simp at hi hi'
        have : j = j' := by omega
        exact h.inj i i' j hl hl' hs (this ▸ hs')
theorem wt_lst {n : Nat} (w : Nat → Nat → Int) (σ : Nat → Option Nat) : wt n w (sig (lst n σ)) = wt n w σ := sumN_congr fun i hi => by rw [lst_sig hi]

/-! ### worth -/
def rv (res : List Int) (j : Nat) : Int := res.getD j 0
def vv (rows : List (List Int)) (i j : Nat) : Int := (rows.getD i []).getD j 0
def wv (res : List Int) (rows : List (List Int)) (i j : Nat) : Int := vv rows i j - rv res j
def sumR (res : List Int) : Int := sumN res.length (rv res)
/-- the program's: lots that nobody gets, then what is given -/
def wFree (to : List Int) : List Int → Int → Int → Int
  | [], _, n => n
  | r :: l, k, n => wFree to l (k + 1) (if to.contains k then n else n + r)
def wGot (rows : List (List Int)) : List Int → Nat → Int → Int
  | [], _, n => n
  | k :: t, i, n => wGot rows t (i + 1) (if 0 ≤ k then n + vv rows i k.toNat else n)
theorem wFree_drop (to res : List Int) (k : Nat) (r n : Int) (h : res[k]? = some r) : wFree to (res.drop k) k n = wFree to (res.drop (k + 1)) ((k + 1 : Nat) : Int) (if to.contains (k : Int) then n else n + r) := by
  obtain ⟨h1, h2⟩ := List.getElem?_eq_some_iff.1 h
  rw [List.drop_eq_getElem_cons h1, h2, wFree]; rfl
theorem wGot_drop (rows : List (List Int)) (to : List Int) (i : Nat) (k n : Int) (h : to[i]? = some k) : wGot rows (to.drop i) i n = wGot rows (to.drop (i + 1)) (i + 1) (if 0 ≤ k then n + vv rows i k.toNat else n) := by
  obtain ⟨h1, h2⟩ := List.getElem?_eq_some_iff.1 h
  rw [List.drop_eq_getElem_cons h1, h2, wGot]
def worthP (res : List Int) (rows : List (List Int)) (to : List Int) : Int := wGot rows to 0 (wFree to res 0 0)
theorem wFree_sum (to : List Int) : ∀ (l : List Int) (k : Nat) (n : Int), wFree to l k n = n + sumN l.length (fun j => if to.contains ((k + j : Nat) : Int) then 0 else l.getD j 0)
  | [], k, n => by simp [wFree, sumN]
  | r :: l, k, n => by
    rw [wFree, show ((k : Int) + 1) = ((k + 1 : Nat) : Int) from rfl, wFree_sum to l (k + 1), List.length_cons, sumN_left]
    rw [sumN_congr (n := l.length) (f := fun i => if to.contains ((k + (i + 1) : Nat) : Int) then (0 : Int) else (r :: l).getD (i + 1) 0) (g := fun j => if to.contains ((k + 1 + j : Nat) : Int) then 0 else l.getD j 0) (fun i _ => by rw [show k + (i + 1) = k + 1 + i by omega]; rfl)]
    simp only [Nat.add_zero, List.getD_cons_zero]
    split <;> omega
theorem wGot_sum (rows : List (List Int)) : ∀ (t : List Int) (i : Nat) (n : Int), wGot rows t i n = n + sumN t.length (fun k => gt (fun a b => vv rows (i + a) b) k (sig t k))
  | [], i, n => by simp [wGot, sumN]
  | k :: t, i, n => by
    rw [wGot, wGot_sum rows t (i + 1), List.length_cons, sumN_left]
    rw [sumN_congr (n := t.length) (f := fun j => gt (fun a b => vv rows (i + a) b) (j + 1) (sig (k :: t) (j + 1))) (g := fun j => gt (fun a b => vv rows (i + 1 + a) b) j (sig t j)) (fun j _ => by
      rw [show sig (k :: t) (j + 1) = sig t j from rfl]
      cases sig t j with
      | none => rfl
      | some b => show vv rows (i + (j + 1)) b = vv rows (i + 1 + j) b; rw [show i + (j + 1) = i + 1 + j by omega])]
    have : gt (fun a b => vv rows (i + a) b) 0 (sig (k :: t) 0) = if 0 ≤ k then vv rows i k.toNat else 0 := by
      unfold sig
      by_cases h : 0 ≤ k
      · simp [h, gt]
      · simp [h, gt]
    rw [this]
    split <;> omega
theorem sold_iff {to : List Int} {j : Nat} : (to.contains (j : Int) = true) ↔ ∃ i, i < to.length ∧ sig to i = some j := by
  rw [List.contains_iff_mem]
  constructor
  · intro h
    obtain ⟨i, hi⟩ := List.mem_iff_getElem?.1 h
    exact ⟨i, (List.getElem?_eq_some_iff.1 hi).1, sig_some.2 hi⟩
  · rintro ⟨i, _, e⟩
    exact List.mem_of_getElem? (sig_some.1 e)
theorem worthP_eq {res : List Int} {rows : List (List Int)} {to : List Int} (h : OkL res.length to) : worthP res rows to = sumR res + wt to.length (wv res rows) (sig to) := by
  have hv := sig_val h
  unfold worthP
  rw [wGot_sum, show wFree to res 0 0 = wFree to res ((0 : Nat) : Int) 0 from rfl, wFree_sum]
  simp only [Nat.zero_add]
  have e := sum_img_eq (fun j => if to.contains (j : Int) then rv res j else 0) hv (fun j _ hno => by
    rw [if_neg]; intro hc
    obtain ⟨i, hi, e⟩ := (sold_iff).1 hc
    exact hno i hi e)
  have e2 : sumR res = sumN res.length (fun j => if to.contains (j : Int) then 0 else res.getD j 0) + sumN res.length (fun j => if to.contains (j : Int) then rv res j else 0) := by
    rw [← sumN_add]
    refine sumN_congr fun j _ => ?_
    split
    · omega
    · show res.getD j 0 = _; omega
  have e3 : sumN to.length (fun k => gt (fun a b => vv rows a b) k (sig to k)) = wt to.length (wv res rows) (sig to) + sumN to.length (fun i => gt (fun _ j => if to.contains (j : Int) then rv res j else 0) i (sig to i)) := by
    unfold wt
    rw [← sumN_add]
    refine sumN_congr fun i hi => ?_
    cases hs : sig to i with
    | none => rfl
    | some j =>
      show vv rows i j = wv res rows i j + (if to.contains (j : Int) then rv res j else 0)
      rw [if_pos ((sold_iff).2 ⟨i, hi, hs⟩)]
      unfold wv; omega
  omega
/-- the reference's: lot by lot -/
def seekN : List Int → Int → Int → Int
  | [], _, _ => -1
  | x :: l, n, i => if x = n then i else seekN l n (i + 1)
theorem seekN_spec : ∀ (l : List Int) (n : Int) (i : Nat), (seekN l n i = -1 ∧ n ∉ l) ∨ ∃ k, l[k]? = some n ∧ seekN l n i = (i + k : Nat)
  | [], n, i => .inl ⟨rfl, by simp⟩
  | x :: l, n, i => by
    rw [seekN]
    by_cases h : x = n
    · rw [if_pos h]; exact .inr ⟨0, by simp [h], by simp⟩
    · rw [if_neg h, show ((i : Int) + 1) = ((i + 1 : Nat) : Int) from rfl]
      rcases seekN_spec l n (i + 1) with ⟨a, b⟩ | ⟨k, a, b⟩
      · exact .inl ⟨a, by simp [b]; exact fun e => h e.symm⟩
      · exact .inr ⟨k + 1, by simpa using a, by rw [b]; omega⟩
def wLot (rows : List (List Int)) (to : List Int) : List Int → Nat → Int → Int
  | [], _, n => n
  | r :: l, j, n => wLot rows to l (j + 1) (if 0 ≤ seekN to j 0 then n + vv rows (seekN to j 0).toNat j else n + r)
theorem wLot_drop (rows : List (List Int)) (to res : List Int) (j : Nat) (r n : Int) (h : res[j]? = some r) : wLot rows to (res.drop j) j n = wLot rows to (res.drop (j + 1)) (j + 1) (if 0 ≤ seekN to j 0 then n + vv rows (seekN to j 0).toNat j else n + r) := by
  obtain ⟨h1, h2⟩ := List.getElem?_eq_some_iff.1 h
  rw [List.drop_eq_getElem_cons h1, h2, wLot]
def worthR (res : List Int) (rows : List (List Int)) (to : List Int) : Int := wLot rows to res 0 0
theorem wLot_sum (rows : List (List Int)) (to : List Int) : ∀ (l : List Int) (j : Nat) (n : Int), wLot rows to l j n = n + sumN l.length (fun k => if 0 ≤ seekN to ((j + k : Nat) : Int) 0 then vv rows (seekN to ((j + k : Nat) : Int) 0).toNat (j + k) else l.getD k 0)
  | [], j, n => by simp [wLot, sumN]
  | r :: l, j, n => by
    rw [wLot, wLot_sum rows to l (j + 1), List.length_cons, sumN_left]
    rw [sumN_congr (n := l.length) (f := fun k => if 0 ≤ seekN to ((j + (k + 1) : Nat) : Int) 0 then vv rows (seekN to ((j + (k + 1) : Nat) : Int) 0).toNat (j + (k + 1)) else (r :: l).getD (k + 1) 0) (g := fun k => if 0 ≤ seekN to ((j + 1 + k : Nat) : Int) 0 then vv rows (seekN to ((j + 1 + k : Nat) : Int) 0).toNat (j + 1 + k) else l.getD k 0) (fun i _ => by rw [show j + (i + 1) = j + 1 + i by omega]; rfl)]
    simp only [Nat.add_zero, List.getD_cons_zero]
    split <;> omega
theorem worthR_eq {res : List Int} {rows : List (List Int)} {to : List Int} (h : OkL res.length to) : worthR res rows to = sumR res + wt to.length (wv res rows) (sig to) := by
  have hv := sig_val h
  unfold worthR
  rw [wLot_sum]
  simp only [Nat.zero_add]
  have e := sum_img_eq (fun j => if 0 ≤ seekN to (j : Int) 0 then wv res rows (seekN to (j : Int) 0).toNat j else 0) hv (fun j _ hno => by
    rcases seekN_spec to j 0 with ⟨a, _⟩ | ⟨k, a, b⟩
    · rw [show seekN to (j : Int) 0 = seekN to (j : Int) ((0 : Nat) : Int) from rfl, a, if_neg (by omega)]
    · exact absurd (sig_some.2 a) (hno k (List.getElem?_eq_some_iff.1 a).1))
  have e3 : wt to.length (wv res rows) (sig to) = sumN to.length (fun i => gt (fun _ j => if 0 ≤ seekN to (j : Int) 0 then wv res rows (seekN to (j : Int) 0).toNat j else 0) i (sig to i)) := by
    refine sumN_congr fun i hi => ?_
    cases hs : sig to i with
    | none => rfl
    | some j =>
      have hget := sig_some.1 hs
      show wv res rows i j = _
      rcases seekN_spec to j 0 with ⟨_, b⟩ | ⟨k, a, b⟩
      · exact absurd (List.mem_of_getElem? hget) b
      · have hk := ok_inj h a hget (by omega)
        show _ = (if 0 ≤ seekN to (j : Int) ((0 : Nat) : Int) then wv res rows (seekN to (j : Int) ((0 : Nat) : Int)).toNat j else 0)
        rw [b, if_pos (by omega), hk]; simp
  rw [e3, e, sumR, ← sumN_add, Int.zero_add]
  refine sumN_congr fun j _ => ?_
  split
  · unfold wv; omega
  · show res.getD j 0 = rv res j + 0; unfold rv; omega
end Am
namespace Am

def bestS (f : List Int → Int) (s : List Int × Int) (so : List Int) : List Int × Int := if s.2 < f so then (so, f so) else s
/-- the lots that are tried: none, then each -/
def kL (m : Nat) : List Int := (List.range (m + 1)).map (fun i : Nat => (i : Int) - 1)
theorem kL_len (m : Nat) : (kL m).length = m + 1 := by simp [kL]
theorem kL_get {m t : Nat} (h : t ≤ m) : (kL m)[t]? = some ((t : Int) - 1) := by unfold kL; rw [List.getElem?_map, List.getElem?_range (by omega)]; rfl
theorem kL_mem {m : Nat} {k : Int} : k ∈ kL m ↔ -1 ≤ k ∧ k < m := by
  unfold kL
  rw [List.mem_map]
  constructor
  · rintro ⟨i, hi, e⟩; have := List.mem_range.1 hi; omega
  · intro h; exact ⟨(k + 1).toNat, List.mem_range.2 (by omega), by omega⟩
def goB (f : List Int → Int) (m : Nat) : Nat → List Int → List Int × Int → List Int × Int
  | 0, so, s => bestS f s so
  | d + 1, so, s => (kL m).foldl (fun s k => if k < 0 ∨ so.contains k = false then goB f m d (so ++ [k]) s else s) s
def stK (f : List Int → Int) (m d : Nat) (so : List Int) (s : List Int × Int) (k : Int) : List Int × Int := if k < 0 ∨ so.contains k = false then goB f m d (so ++ [k]) s else s
/-- the loop, from the t-th try on -/
def goK (f : List Int → Int) (m d : Nat) (so : List Int) (t : Nat) (s : List Int × Int) : List Int × Int := ((kL m).drop t).foldl (stK f m d so) s
theorem goK_0 (f : List Int → Int) (m d : Nat) (so : List Int) (s : List Int × Int) : goB f m (d + 1) so s = goK f m d so 0 s := rfl
theorem goK_s {f : List Int → Int} {m d : Nat} {so : List Int} {t : Nat} {s : List Int × Int} (h : t ≤ m) : goK f m d so t s = goK f m d so (t + 1) (stK f m d so s ((t : Int) - 1)) := by
  have hl : t < (kL m).length := by rw [kL_len]; omega
  unfold goK
  rw [List.drop_eq_getElem_cons hl, List.foldl_cons, show (kL m)[t] = (t : Int) - 1 from by have := kL_get h; rw [List.getElem?_eq_getElem hl] at this; exact Option.some.inj this]
theorem goK_end {f : List Int → Int} {m d : Nat} {so : List Int} {t : Nat} {s : List Int × Int} (h : m < t) : goK f m d so t s = s := by
  unfold goK; rw [List.drop_of_length_le (by rw [kL_len]; omega)]; rfl
/-- a list that completes another one -/
def Comp (m d : Nat) (so to : List Int) : Prop := OkL m to ∧ ∃ t, to = so ++ t ∧ t.length = d
structure Bst (f : List Int → Int) (C : List Int → Prop) (s s' : List Int × Int) : Prop where
  ge : s.2 ≤ s'.2
  all : ∀ to, C to → f to ≤ s'.2
  at_ : s' = s ∨ ∃ to, C to ∧ s' = (to, f to)
theorem goB_spec (f : List Int → Int) (m : Nat) : ∀ (d : Nat) (so : List Int) (s : List Int × Int), OkL m so → Bst f (Comp m d so) s (goB f m d so s)
  | 0, so, s, hs => by
    have hc : ∀ to, Comp m 0 so to → to = so := by rintro to ⟨_, t, e, hl⟩; rw [e, List.eq_nil_of_length_eq_zero hl, List.append_nil]
    have hso : Comp m 0 so so := ⟨hs, [], by simp, rfl⟩
    rw [goB, bestS]
    by_cases h : s.2 < f so
    · rw [if_pos h]; exact ⟨by simp only; omega, fun to ht => by rw [hc to ht]; exact Int.le_refl _, .inr ⟨so, hso, rfl⟩⟩
    · rw [if_neg h]; exact ⟨Int.le_refl _, fun to ht => by rw [hc to ht]; omega, .inl rfl⟩
  | d + 1, so, s, hs => by
    have key : ∀ (ks : List Int) (s : List Int × Int), (∀ k ∈ ks, -1 ≤ k ∧ k < m) → Bst f (fun to => ∃ k ∈ ks, Comp m d (so ++ [k]) to) s (ks.foldl (stK f m d so) s) := by
      intro ks
      induction ks with
      | nil => intro s _; exact ⟨Int.le_refl _, fun to ⟨k, hk, _⟩ => (by cases hk), .inl rfl⟩
      | cons k ks ih =>
        intro s hk
        rw [List.foldl_cons]
        obtain ⟨a1, a2, a3⟩ := ih (stK f m d so s k) (fun q hq => hk q (List.mem_cons_of_mem _ hq))
        have hkr := hk k (List.mem_cons_self ..)
        have hstep : Bst f (Comp m d (so ++ [k])) s (stK f m d so s k) := by
          unfold stK
          by_cases h : k < 0 ∨ so.contains k = false
          · rw [if_pos h]
            refine goB_spec f m d (so ++ [k]) s (OkL.snoc.2 ⟨hs, hkr, fun h0 hm => ?_⟩)
            rcases h with h | h
            · omega
            · rw [List.contains_iff_mem.2 hm] at h; cases h
          · rw [if_neg h]
            refine ⟨Int.le_refl _, fun to ht => ?_, .inl rfl⟩
            obtain ⟨hok, t, e, _⟩ := ht
            rw [e] at hok
            have := (OkL.snoc.1 hok.pre).2.2 (by omega)
            exact absurd (.inr (by cases hc : so.contains k; rfl; exact absurd (List.contains_iff_mem.1 hc) this)) h
        refine ⟨Int.le_trans hstep.ge a1, fun to ht => ?_, ?_⟩
        · obtain ⟨q, hq, hc⟩ := ht
          rcases List.mem_cons.1 hq with e | e
          · have := hstep.all to (e ▸ hc); omega
          · exact a2 to ⟨q, e, hc⟩
        · rcases a3 with e | ⟨to, ⟨q, hq, hc⟩, e⟩
          · rw [e]
            rcases hstep.at_ with e' | ⟨to, hc, e'⟩
            · exact .inl e'
            · exact .inr ⟨to, ⟨k, List.mem_cons_self .., hc⟩, e'⟩
          · exact .inr ⟨to, ⟨q, List.mem_cons_of_mem _ hq, hc⟩, e⟩
    obtain ⟨a1, a2, a3⟩ := key (kL m) s (fun k hk => kL_mem.1 hk)
    have hiff : ∀ to, Comp m (d + 1) so to ↔ ∃ k ∈ kL m, Comp m d (so ++ [k]) to := by
      intro to
      constructor
      · rintro ⟨hok, t, e, hl⟩
        cases t with
        | nil => simp at hl
        | cons k t =>
          refine ⟨k, kL_mem.2 (hok.rng k (by rw [e]; simp)), hok, t, by rw [e]; simp, by simpa using hl⟩
      · rintro ⟨k, _, hok, t, e, hl⟩
        exact ⟨hok, k :: t, by rw [e]; simp, by simp [hl]⟩
    show Bst f (Comp m (d + 1) so) s ((kL m).foldl (stK f m d so) s)
    exact ⟨a1, fun to ht => a2 to ((hiff to).1 ht), a3.imp id fun ⟨to, h, e⟩ => ⟨to, (hiff to).2 h, e⟩⟩
/-- the program's best list, and its worth -/
def bestF (res : List Int) (rows : List (List Int)) : List Int × Int := goB (worthP res rows) res.length rows.length [] ([], -1)
def nnL (l : List Int) : Prop := ∀ x ∈ l, 0 ≤ x
theorem getD_nn {l : List Int} (h : nnL l) (k : Nat) : 0 ≤ l.getD k 0 := by
  rw [List.getD_eq_getElem?_getD]
  cases hx : l[k]? with
  | none => simp
  | some x => exact h x (List.mem_of_getElem? hx)
theorem worth_nn {res : List Int} {rows : List (List Int)} (h1 : nnL res) (h2 : ∀ r ∈ rows, nnL r) (to : List Int) : 0 ≤ worthP res rows to := by
  have hvv : ∀ i j, 0 ≤ vv rows i j := by
    intro i j
    unfold vv
    refine getD_nn ?_ j
    rw [List.getD_eq_getElem?_getD]
    cases hr : rows[i]? with
    | none => intro x hx; cases hx
    | some r => exact h2 r (List.mem_of_getElem? hr)
  have g1 : ∀ (l : List Int) (k n : Int), nnL l → 0 ≤ n → 0 ≤ wFree to l k n := by
    intro l
    induction l with
    | nil => intro k n _ h; exact h
    | cons r l ih =>
      intro k n hl hn
      rw [wFree]
      have := hl r (List.mem_cons_self ..)
      exact ih _ _ (fun x hx => hl x (List.mem_cons_of_mem _ hx)) (by split <;> omega)
  have g2 : ∀ (t : List Int) (i : Nat) (n : Int), 0 ≤ n → 0 ≤ wGot rows t i n := by
    intro t
    induction t with
    | nil => intro i n h; exact h
    | cons k t ih =>
      intro i n hn
      rw [wGot]
      have := hvv i k.toNat
      exact ih _ _ (by split <;> omega)
  exact g2 to 0 _ (g1 res 0 0 h1 (Int.le_refl _))
theorem best_spec {res : List Int} {rows : List (List Int)} (h1 : nnL res) (h2 : ∀ r ∈ rows, nnL r) : OkL res.length (bestF res rows).1 ∧ (bestF res rows).1.length = rows.length ∧ (bestF res rows).2 = worthP res rows (bestF res rows).1 ∧ IsMax rows.length res.length (wv res rows) ((bestF res rows).2 - sumR res) ∧ wt rows.length (wv res rows) (sig (bestF res rows).1) = (bestF res rows).2 - sumR res := by
  obtain ⟨a1, a2, a3⟩ := goB_spec (worthP res rows) res.length rows.length [] ([], -1) (OkL.nil _)
  have hc : ∀ to, OkL res.length to → to.length = rows.length → Comp res.length rows.length [] to := fun to h hl => ⟨h, to, by simp, hl⟩
  have h0 : Val rows.length res.length (fun _ => none) := ⟨fun _ _ _ h => (by cases h), fun _ _ _ _ _ h => (by cases h)⟩
  have hz := a2 _ (hc _ (lst_ok h0) (lst_len _ _))
  have hzz := worth_nn h1 h2 (lst rows.length fun _ => none)
  rcases a3 with e | ⟨to, ⟨hok, t, e1, hl⟩, e⟩
  · rw [e] at hz; simp only at hz; omega
  · have e1' : to = t := by simpa using e1
    subst e1'
    have eb : bestF res rows = (to, worthP res rows to) := e
    have hw := worthP_eq (rows := rows) hok
    rw [hl] at hw
    have hv := sig_val hok
    rw [hl] at hv
    rw [eb]
    refine ⟨hok, hl, rfl, ⟨⟨sig to, hv, by simp only; omega⟩, fun σ hs => ?_⟩, by simp only; omega⟩
    have h3 := a2 _ (hc _ (lst_ok hs) (lst_len _ _))
    have h4 := worthP_eq (rows := rows) (lst_ok hs)
    rw [lst_len, wt_lst] at h4
    have eb2 : (goB (worthP res rows) res.length rows.length [] ([], -1)).2 = worthP res rows to := by rw [e]
    rw [eb2] at h3
    simp only; omega
/-! ### the reference: the lots that are free, as bits -/
def freeR (res : List Int) (f : Nat) : Int := sumN res.length (fun j => if f.testBit j then rv res j else 0)
def mostJ (row : List Int) (f : Nat) (g : Nat → Int) : Nat → Nat → Int → Int
  | 0, _, b => b
  | d + 1, j, b => mostJ row f g d (j + 1) (if f.testBit j then max b (row.getD j 0 + g (f - 2 ^ j)) else b)
def mostR (res : List Int) : List (List Int) → Nat → Int
  | [], f => freeR res f
  | row :: rest, f => mostJ row f (mostR res rest) res.length 0 (mostR res rest f)
structure IsFree (n m f : Nat) (w : Nat → Nat → Int) (M : Int) : Prop where
  at_ : ∃ σ, Val n m σ ∧ (∀ i j, i < n → σ i = some j → f.testBit j = true) ∧ wt n w σ = M
  le : ∀ σ, Val n m σ → (∀ i j, i < n → σ i = some j → f.testBit j = true) → wt n w σ ≤ M
theorem wt_left (n : Nat) (w : Nat → Nat → Int) (σ : Nat → Option Nat) : wt (n + 1) w σ = gt w 0 (σ 0) + wt n (fun i => w (i + 1)) (fun i => σ (i + 1)) := by
  unfold wt; rw [sumN_left]; congr 1
theorem bit_sub {f j k : Nat} (h : f.testBit j = true) : (f - 2 ^ j).testBit k = (f.testBit k && !(k == j)) := by
  have hq : 2 ^ (j + 1) * (f / 2 ^ (j + 1)) + f % 2 ^ (j + 1) = f := Nat.div_add_mod ..
  have hlt : f % 2 ^ (j + 1) < 2 ^ (j + 1) := Nat.mod_lt _ (Nat.two_pow_pos _)
  have hb : (f % 2 ^ (j + 1)).testBit j = true := by rw [Nat.testBit_mod_two_pow, h]; simp
  have hge := Nat.ge_two_pow_of_testBit hb
  have hp : 2 ^ (j + 1) = 2 * 2 ^ j := by rw [Nat.pow_succ]; omega
  obtain ⟨r, hr⟩ : ∃ r, f % 2 ^ (j + 1) = 2 ^ j + r := ⟨f % 2 ^ (j + 1) - 2 ^ j, by omega⟩
  have hrl : r < 2 ^ j := by omega
  rw [hr] at hq hlt
  have e1 : f - 2 ^ j = 2 ^ (j + 1) * (f / 2 ^ (j + 1)) + r := by omega
  rw [e1, Nat.testBit_two_pow_mul_add _ (by omega), ← hq, Nat.testBit_two_pow_mul_add _ hlt]
  have e2 : (2 ^ (j + 1) * (f / 2 ^ (j + 1)) + (2 ^ j + r)) / 2 ^ (j + 1) = f / 2 ^ (j + 1) := by rw [hq]
  rw [e2]
  by_cases hk : k < j + 1
  · rw [if_pos hk, if_pos hk]
    by_cases hkj : k = j
    · subst hkj; rw [Nat.testBit_lt_two_pow hrl]; simp
    · rw [Nat.testBit_two_pow_add_gt (by omega)]; simp [hkj]
  · rw [if_neg hk, if_neg hk]
    have : k ≠ j := by omega
    simp [this]
theorem free_sub {res : List Int} {f j : Nat} (h : f.testBit j = true) (hj : j < res.length) : freeR res (f - 2 ^ j) = freeR res f - rv res j := by
  unfold freeR
  rw [sumN_upd (fun k => if (f - 2 ^ j).testBit k then rv res k else 0) (fun k => if f.testBit k then rv res k else 0) hj (fun k _ hne => by
    simp only [bit_sub h]; simp [hne])]
  simp only [bit_sub h, h]; simp
theorem mostJ_spec (row : List Int) (f : Nat) (g : Nat → Int) : ∀ (d j : Nat) (b : Int), b ≤ mostJ row f g d j b ∧ (∀ k, j ≤ k → k < j + d → f.testBit k = true → row.getD k 0 + g (f - 2 ^ k) ≤ mostJ row f g d j b) ∧ (mostJ row f g d j b = b ∨ ∃ k, j ≤ k ∧ k < j + d ∧ f.testBit k = true ∧ mostJ row f g d j b = row.getD k 0 + g (f - 2 ^ k))
  | 0, j, b => ⟨Int.le_refl _, fun k h1 h2 => absurd h2 (by omega), .inl rfl⟩
  | d + 1, j, b => by
    rw [mostJ]
    by_cases hb : f.testBit j = true
    · rw [if_pos hb]
      obtain ⟨h1, h2, h3⟩ := mostJ_spec row f g d (j + 1) (max b (row.getD j 0 + g (f - 2 ^ j)))
      refine ⟨by omega, fun k hk1 hk2 hk => ?_, ?_⟩
      · by_cases e : k = j
        · rw [e]; omega
        · exact h2 k (by omega) (by omega) hk
      · rcases h3 with e | ⟨k, k1, k2, k3, k4⟩
        · by_cases hm : b ≤ row.getD j 0 + g (f - 2 ^ j)
          · exact .inr ⟨j, Nat.le_refl _, by omega, hb, by omega⟩
          · exact .inl (by omega)
        · exact .inr ⟨k, by omega, by omega, k3, k4⟩
    · rw [if_neg hb]
      obtain ⟨h1, h2, h3⟩ := mostJ_spec row f g d (j + 1) b
      refine ⟨h1, fun k hk1 hk2 hk => ?_, h3.imp id fun ⟨k, k1, k2, x⟩ => ⟨k, by omega, by omega, x⟩⟩
      by_cases e : k = j
      · rw [e] at hk; exact absurd hk hb
      · exact h2 k (by omega) (by omega) hk
theorem mostR_spec (res : List Int) : ∀ (rows : List (List Int)) (f : Nat), IsFree rows.length res.length f (wv res rows) (mostR res rows f - freeR res f)
  | [], f => by
    rw [mostR, Int.sub_self]
    exact ⟨⟨fun _ => none, ⟨fun _ _ h => absurd h (Nat.not_lt_zero _), fun _ _ _ h => absurd h (Nat.not_lt_zero _)⟩, fun _ _ h => absurd h (Nat.not_lt_zero _), rfl⟩, fun σ _ _ => Int.le_refl _⟩
  | row :: rest, f => by
    have hw0 : ∀ j, wv res (row :: rest) 0 j = row.getD j 0 - rv res j := fun j => rfl
    have hws : (fun i => wv res (row :: rest) (i + 1)) = wv res rest := rfl
    rw [mostR, List.length_cons]
    obtain ⟨b1, b2, b3⟩ := mostJ_spec row f (mostR res rest) res.length 0 (mostR res rest f)
    have hN := mostR_spec res rest f
    refine ⟨?_, fun σ hs hf => ?_⟩
    · rcases b3 with e | ⟨k, _, k2, k3, k4⟩
      · obtain ⟨σ, s1, s2, s3⟩ := hN.at_
        refine ⟨fun i => match i with | 0 => none | i + 1 => σ i, ⟨fun i j hi h => ?_, fun i i' j hi hi' h h' => ?_⟩, fun i j hi h => ?_, ?_⟩
        · cases i with
          | zero => cases h
          | succ i => exact s1.lot i j (by omega) h
        · cases i with
          | zero => cases h
          | succ i =>
            cases i' with
            | zero => cases h'
            | succ i' => rw [s1.inj i i' j (by omega) (by omega) h h']
        · cases i with
          | zero => cases h
          | succ i => exact s2 i j (by omega) h
        · rw [wt_left, hws]
          show (0 : Int) + wt rest.length (wv res rest) (fun i => σ i) = _
          rw [e]; have : wt rest.length (wv res rest) (fun i => σ i) = wt rest.length (wv res rest) σ := rfl
          omega
      · have hkm : k < res.length := by omega
        obtain ⟨σ, s1, s2, s3⟩ := (mostR_spec res rest (f - 2 ^ k)).at_
        have hne : ∀ i j, i < rest.length → σ i = some j → j ≠ k ∧ f.testBit j = true := fun i j hi h => by
          have := s2 i j hi h
          rw [bit_sub k3] at this
          simp at this; exact ⟨this.2, this.1⟩
        refine ⟨fun i => match i with | 0 => some k | i + 1 => σ i, ⟨fun i j hi h => ?_, fun i i' j hi hi' h h' => ?_⟩, fun i j hi h => ?_, ?_⟩
        · cases i with
          | zero => cases h; exact hkm
          | succ i => exact s1.lot i j (by omega) h
        · cases i with
          | zero =>
            cases i' with
            | zero => rfl
            | succ i' => cases h; exact absurd rfl (hne i' _ (by omega) h').1
          | succ i =>
            cases i' with
            | zero => cases h'; exact absurd rfl (hne i _ (by omega) h).1
            | succ i' => rw [s1.inj i i' j (by omega) (by omega) h h']
        · cases i with
          | zero => cases h; exact k3
          | succ i => exact (hne i j (by omega) h).2
        · rw [wt_left, hws]
          show wv res (row :: rest) 0 k + wt rest.length (wv res rest) (fun i => σ i) = _
          have : wt rest.length (wv res rest) (fun i => σ i) = wt rest.length (wv res rest) σ := rfl
          rw [k4, hw0]
          have := free_sub k3 hkm
          omega
    · rw [wt_left, hws]
      have hv : Val rest.length res.length (fun i => σ (i + 1)) := ⟨fun i j hi h => hs.lot (i + 1) j (by omega) h, fun i i' j hi hi' h h' => by have := hs.inj (i + 1) (i' + 1) j (by omega) (by omega) h h'; omega⟩
      cases h0 : σ 0 with
      | none =>
        have := hN.le _ hv (fun i j hi h => hf (i + 1) j (by omega) h)
        show (0 : Int) + _ ≤ _
        omega
      | some k =>
        have hkm := hs.lot 0 k (by omega) h0
        have hkf := hf 0 k (by omega) h0
        have := (mostR_spec res rest (f - 2 ^ k)).le _ hv (fun i j hi h => by
          rw [bit_sub hkf, hf (i + 1) j (by omega) h]
          have : j ≠ k := fun e => by have := hs.inj (i + 1) 0 j (by omega) (by omega) h (e ▸ h0); omega
          simp [this])
        have h2 := b2 k (Nat.zero_le _) (by omega) hkf
        have := free_sub hkf hkm
        show wv res (row :: rest) 0 k + _ ≤ _
        rw [hw0]; omega
/-- all lots are free -/
theorem most_all (res : List Int) (rows : List (List Int)) : IsMax rows.length res.length (wv res rows) (mostR res rows (2 ^ res.length - 1) - sumR res) := by
  have hb : ∀ j, j < res.length → (2 ^ res.length - 1).testBit j = true := fun j hj => by rw [Nat.testBit_two_pow_sub_one]; simp [hj]
  have hR : freeR res (2 ^ res.length - 1) = sumR res := sumN_congr fun j hj => by rw [if_pos (hb j hj)]
  obtain ⟨⟨σ, a1, a2, a3⟩, b⟩ := mostR_spec res rows (2 ^ res.length - 1)
  rw [hR] at a3 b
  exact ⟨⟨σ, a1, a3⟩, fun τ h => b τ h (fun i j hi e => hb j (h.lot i j hi e))⟩
theorem most_best {res : List Int} {rows : List (List Int)} (h1 : nnL res) (h2 : ∀ r ∈ rows, nnL r) : mostR res rows (2 ^ res.length - 1) = (bestF res rows).2 := by
  have := (most_all res rows).uniq (best_spec h1 h2).2.2.2.1
  omega
/-! ### a lot once more -/
def withR (res : List Int) (k : Nat) : List Int := res ++ [res.getD k 0]
def withV (rows : List (List Int)) (k : Nat) : List (List Int) := rows.map (fun l => l ++ [l.getD k 0])
theorem with_w {res : List Int} {rows : List (List Int)} {k : Nat} (hr : ∀ r ∈ rows, r.length = res.length) (i j : Nat) (hi : i < rows.length) (hj : j < res.length + 1) : wv (withR res k) (withV rows k) i j = dup res.length k (wv res rows) i j := by
  have hx : ∀ l : List Int, l.length = res.length → (l ++ [l.getD k 0]).getD j 0 = l.getD (if j = res.length then k else j) 0 := by
    intro l hl
    rw [List.getD_eq_getElem?_getD, List.getElem?_append]
    by_cases h : j = res.length
    · rw [if_neg (by omega), if_pos h, h, hl]; simp
    · rw [if_pos (by omega), if_neg h, List.getD_eq_getElem?_getD]
  have hrow : (rows.map (fun l => l ++ [l.getD k 0])).getD i [] = (rows.getD i []) ++ [(rows.getD i []).getD k 0] := by
    rw [List.getD_eq_getElem?_getD, List.getElem?_map, List.getD_eq_getElem?_getD, List.getElem?_eq_getElem hi]; rfl
  have hlen : (rows.getD i []).length = res.length := by
    rw [List.getD_eq_getElem?_getD, List.getElem?_eq_getElem hi]; exact hr _ (List.getElem_mem _)
  unfold wv dup vv rv withV withR
  rw [hrow, hx _ hlen, hx _ rfl]
theorem with_len (res : List Int) (k : Nat) : (withR res k).length = res.length + 1 := by simp [withR]
theorem withV_len (rows : List (List Int)) (k : Nat) : (withV rows k).length = rows.length := by simp [withV]
theorem with_nn {res : List Int} {k : Nat} (h : nnL res) : nnL (withR res k) := by
  intro x hx
  rcases List.mem_append.1 hx with e | e
  · exact h x e
  · simp at e; rw [e]; have := getD_nn h k; rwa [List.getD_eq_getElem?_getD] at this
theorem withV_nn {rows : List (List Int)} {k : Nat} (h : ∀ r ∈ rows, nnL r) : ∀ r ∈ withV rows k, nnL r := by
  intro r hr
  obtain ⟨l, hl, e⟩ := List.mem_map.1 hr
  rw [← e]; exact with_nn (h l hl)
theorem sumR_with (res : List Int) (k : Nat) : sumR (withR res k) = sumR res + rv res k := by
  unfold sumR
  rw [with_len, sumN]
  have e : sumN res.length (rv (withR res k)) = sumN res.length (rv res) := sumN_congr fun j hj => by
    unfold rv withR; rw [List.getD_eq_getElem?_getD, List.getElem?_append, if_pos hj, List.getD_eq_getElem?_getD]
  rw [e]
  congr 1
  unfold rv withR
  rw [List.getD_eq_getElem?_getD, List.getElem?_append, if_neg (by omega)]; simp
/-- the price of a lot -/
def priceC (res : List Int) (rows : List (List Int)) (k : Nat) : Int := (bestF (withR res k) (withV rows k)).2 - (bestF res rows).2
theorem price_max {res : List Int} {rows : List (List Int)} (h1 : nnL res) (h2 : ∀ r ∈ rows, nnL r) (hr : ∀ r ∈ rows, r.length = res.length) (k : Nat) : IsMax rows.length (res.length + 1) (dup res.length k (wv res rows)) (priceC res rows k - rv res k + ((bestF res rows).2 - sumR res)) := by
  have h := (best_spec (with_nn (k := k) h1) (withV_nn (k := k) h2)).2.2.2.1
  rw [withV_len, with_len] at h
  have h3 := h.congr (fun i j hi hj => with_w hr i j hi hj)
  have e := sumR_with res k
  have : priceC res rows k - rv res k + ((bestF res rows).2 - sumR res) = (bestF (withR res k) (withV rows k)).2 - sumR (withR res k) := by unfold priceC; omega
  rw [this]; exact h3
def pricesL (res : List Int) (rows : List (List Int)) : List Int := (List.range res.length).map (priceC res rows)
end Am
namespace Go.Proofs.YtppfniekcgnmjaaGreatDoor.Au
open Go.Sx Go.RowKit Am

theorem not_t {b : Bool} (h : (!b) = true) : b = false := by cases b <;> simp_all
theorem not_f {b : Bool} (h : (!b) = false) : b = true := by cases b <;> simp_all
def seek : List Int → Int → Int → Int
  | [], _, _ => -1
  | x :: l, n, i => if x = n then i else seek l n (i + 1)
theorem seek_drop (l : List Int) (n : Int) (k : Nat) (x : Int) (h : l[k]? = some x) : seek (l.drop k) n k = if x = n then (k : Int) else seek (l.drop (k + 1)) n ((k + 1 : Nat) : Int) := by
  obtain ⟨h1, h2⟩ := List.getElem?_eq_some_iff.1 h
  rw [List.drop_eq_getElem_cons h1, h2, seek]; rfl
def btw (lo n hi : Int) : Bool := decide (lo ≤ n) && decide (n ≤ hi)
theorem all_drop {α : Type} (p : α → Bool) (l : List α) (k : Nat) (x : α) (h : l[k]? = some x) : (l.drop k).all p = (p x && (l.drop (k + 1)).all p) := by
  obtain ⟨h1, h2⟩ := List.getElem?_eq_some_iff.1 h
  rw [List.drop_eq_getElem_cons h1, h2, List.all_cons]
theorem btw_t {lo n hi : Int} : btw lo n hi = true ↔ lo ≤ n ∧ n ≤ hi := by unfold btw; rw [Bool.and_eq_true, decide_eq_true_iff, decide_eq_true_iff]
theorem btw_f {lo n hi : Int} : btw lo n hi = false ↔ ¬ (lo ≤ n ∧ n ≤ hi) := by rw [← btw_t]; simp

abbrev encRi (r : RiseV) : List Value := [.int .i64 r.fr, .int .i64 r.by_]
abbrev encBi (b : BidV) : List Value := [.int .i64 b.who, .int .i64 b.way, .int .i64 b.most]
abbrev encLe (x : LeadV) : List Value := [.int .i64 x.who, .int .i64 x.limit, .int .i64 x.way, .int .i64 x.second, .int .i64 x.price]
/-! a lot -/
def stepOk (pr : Option Int) (r : RiseV) : Bool := btw 1 r.by_ 100000 && (match pr with | none => true | some q => btw (q + 1) r.fr 100000)
def ladG : Option Int → List RiseV → Bool
  | _, [] => true
  | pr, r :: l => stepOk pr r && ladG (some r.fr) l
def prevAt (lad : List RiseV) : Nat → Option Int
  | 0 => none
  | k + 1 => (lad[k]?).map (·.fr)
theorem ladG_drop (lad : List RiseV) (k : Nat) (r : RiseV) (h : lad[k]? = some r) : ladG (prevAt lad k) (lad.drop k) = (stepOk (prevAt lad k) r && ladG (prevAt lad (k + 1)) (lad.drop (k + 1))) := by
  obtain ⟨h1, h2⟩ := List.getElem?_eq_some_iff.1 h
  rw [List.drop_eq_getElem_cons h1, h2, ladG, prevAt, h]; rfl
def lotB (st rv : Int) (lad : List RiseV) : Bool := btw 1 st 100000 && btw 0 rv 100000 && btw 1 lad.length 8 && ((lad.getD 0 default).fr == 0) && ladG none lad
def lotE (st rv : Int) (lad : List RiseV) : Int := if lotB st rv lad = true then 0 else 60
def refOk (pr : Option Int) (r : RiseV) : Bool := btw 0 r.fr 100000 && btw 1 r.by_ 100000 && (match pr with | none => r.fr == 0 | some q => decide (q < r.fr))
def refG : Option Int → List RiseV → Bool
  | _, [] => true
  | pr, r :: l => refOk pr r && refG (some r.fr) l
theorem refG_drop (lad : List RiseV) (k : Nat) (r : RiseV) (h : lad[k]? = some r) : refG (prevAt lad k) (lad.drop k) = (refOk (prevAt lad k) r && refG (prevAt lad (k + 1)) (lad.drop (k + 1))) := by
  obtain ⟨h1, h2⟩ := List.getElem?_eq_some_iff.1 h
  rw [List.drop_eq_getElem_cons h1, h2, refG, prevAt, h]; rfl
theorem ref_step (q : Int) (h : 0 ≤ q) (r : RiseV) : refOk (some q) r = stepOk (some q) r := by
  unfold refOk stepOk btw
  simp only
  by_cases h1 : q < r.fr
  · have e1 : decide (q < r.fr) = true := by simpa
    have e2 : decide (q + 1 ≤ r.fr) = true := by simpa
    have e3 : decide (0 ≤ r.fr) = true := by simp; omega
    rw [e1, e2, e3]
    cases decide (r.fr ≤ 100000) <;> cases decide (1 ≤ r.by_) <;> cases decide (r.by_ ≤ 100000) <;> rfl
  · have e1 : decide (q < r.fr) = false := by simpa using h1
    have e2 : decide (q + 1 ≤ r.fr) = false := by simp; omega
    rw [e1, e2]; simp
theorem ref_lad : ∀ (l : List RiseV) (q : Int), 0 ≤ q → refG (some q) l = ladG (some q) l
  | [], _, _ => rfl
  | r :: l, q, h => by
    rw [refG, ladG, ref_step q h]
    cases hs : stepOk (some q) r with
    | false => rfl
    | true =>
      unfold stepOk at hs
      have := btw_t.1 (Bool.and_eq_true_iff.1 hs).2
      rw [ref_lad l r.fr (by omega)]
theorem ref_lot (lad : List RiseV) (h : 1 ≤ lad.length) : refG none lad = (((lad.getD 0 default).fr == 0) && ladG none lad) := by
  cases lad with
  | nil => simp at h
  | cons r l =>
    rw [refG, ladG]
    unfold refOk stepOk
    simp only [List.getD_cons_zero, Bool.and_true]
    by_cases h0 : r.fr = 0
    · have e0 : btw 0 r.fr 100000 = true := btw_t.2 (by omega)
      rw [e0, h0, ref_lad l 0 (Int.le_refl _)]; simp
    · have : (r.fr == 0) = false := by simpa using h0
      rw [this]; simp
def lotH (st rv : Int) (lad : List RiseV) : Bool := btw 1 st 100000 && btw 0 rv 100000 && btw 1 lad.length 8 && ((lad.getD 0 default).fr == 0)
theorem lotB_H (st rv : Int) (lad : List RiseV) : lotB st rv lad = (lotH st rv lad && ladG none lad) := rfl
theorem lotH_V (st rv : Int) (lad : List RiseV) : ((((!(decide (1 ≤ st) && decide (st ≤ 100000))) || !(decide (0 ≤ rv) && decide (rv ≤ 100000))) || !(decide ((1 : Int) ≤ lad.length) && decide ((lad.length : Int) ≤ 8))) || ((lad.getD (0 : Int).toNat default).fr != 0)) = !(lotH st rv lad) := by
  have e : ((lad.getD (0 : Int).toNat default).fr != 0) = !((lad.getD 0 default).fr == 0) := rfl
  rw [e, ← Bool.not_and, ← Bool.not_and, ← Bool.not_and]; rfl
theorem lotH_z {st rv : Int} {lad : List RiseV} (h : lotH st rv lad = true) : (1 ≤ lad.length ∧ lad.length ≤ 8) ∧ (lad.getD 0 default).fr = 0 := by
  unfold lotH at h
  simp only [Bool.and_eq_true, btw_t] at h
  exact ⟨by omega, by simpa using h.2⟩
theorem step_V (lad : List RiseV) (k : Nat) (r : RiseV) (hk : k ≤ lad.length) : ((!(decide (1 ≤ r.by_) && decide (r.by_ ≤ 100000))) || (decide (0 < (k : Int)) && !(decide ((lad.getD ((k : Int) - 1).toNat default).fr + 1 ≤ r.fr) && decide (r.fr ≤ 100000)))) = !(stepOk (prevAt lad k) r) := by
  unfold stepOk
  cases k with
  | zero => unfold btw; simp [prevAt]
  | succ k =>
    have e1 : (((k + 1 : Nat) : Int) - 1).toNat = k := by omega
    have e2 : decide ((0 : Int) < ((k + 1 : Nat) : Int)) = true := decide_eq_true (by omega)
    have e3 : prevAt lad (k + 1) = some (lad.getD k default).fr := by
      rw [prevAt, List.getD_eq_getElem?_getD, List.getElem?_eq_getElem (by omega)]; rfl
    rw [e1, e2, e3, Bool.true_and, ← Bool.not_and]; rfl
theorem step_fr {lad : List RiseV} {k : Nat} {r : RiseV} (hx : lad[k]? = some r) (h : stepOk (prevAt lad k) r = true) (hpv : ∀ j, j < k → 0 ≤ (lad.getD j default).fr ∧ (lad.getD j default).fr ≤ 100000) (hz : (lad.getD 0 default).fr = 0) : 0 ≤ r.fr ∧ r.fr ≤ 100000 := by
  have hr : lad.getD k default = r := by rw [List.getD_eq_getElem?_getD, hx]; rfl
  cases k with
  | zero => rw [hr] at hz; omega
  | succ k =>
    have hlt := (List.getElem?_eq_some_iff.1 hx).1
    have e3 : prevAt lad (k + 1) = some (lad.getD k default).fr := by
      rw [prevAt, List.getD_eq_getElem?_getD, List.getElem?_eq_getElem (by omega)]; rfl
    rw [e3] at h
    unfold stepOk at h
    have h1 := btw_t.1 (Bool.and_eq_true_iff.1 h).2
    have h2 := hpv k (by omega)
    omega
theorem refStep_V (lad : List RiseV) (k : Nat) (r : RiseV) (hk : k ≤ lad.length) (ok : Bool) : ((((ok && (decide (0 ≤ r.fr) && decide (r.fr ≤ 100000))) && (decide (1 ≤ r.by_) && decide (r.by_ ≤ 100000))) && (decide (0 < (k : Int)) || (r.fr == 0))) && (((k : Int) == 0) || decide ((lad.getD ((k : Int) - 1).toNat default).fr < r.fr))) = (ok && refOk (prevAt lad k) r) := by
  unfold refOk
  cases k with
  | zero => simp [prevAt, btw, Bool.and_assoc]
  | succ k =>
    have e1 : (((k + 1 : Nat) : Int) - 1).toNat = k := by omega
    have e2 : decide ((0 : Int) < ((k + 1 : Nat) : Int)) = true := decide_eq_true (by omega)
    have e4 : (((k + 1 : Nat) : Int) == 0) = false := beq_eq_false_iff_ne.2 (by omega)
    have e3 : prevAt lad (k + 1) = some (lad.getD k default).fr := by
      rw [prevAt, List.getD_eq_getElem?_getD, List.getElem?_eq_getElem (by omega)]; rfl
    rw [e1, e2, e3, e4]
    simp [btw, Bool.and_assoc]
theorem ref_all (st rv : Int) (lad : List RiseV) : ((((decide (1 ≤ st) && decide (st ≤ 100000)) && (decide (0 ≤ rv) && decide (rv ≤ 100000))) && (decide ((1 : Int) ≤ lad.length) && decide ((lad.length : Int) ≤ 8))) && refG none lad) = lotB st rv lad := by
  unfold lotB btw
  by_cases h : 1 ≤ lad.length
  · rw [ref_lot lad h]; simp only [Bool.and_assoc]
  · have : decide ((1 : Int) ≤ lad.length) = false := by simp; omega
    rw [this]; simp
theorem getD_mem {α : Type} {l : List α} {k : Nat} {d : α} (h : k < l.length) : l.getD k d ∈ l := by
  rw [List.getD_eq_getElem?_getD, List.getElem?_eq_getElem h]; exact List.getElem_mem _
structure LotOk (st rv : Int) (lad : List RiseV) : Prop where
  st : 1 ≤ st ∧ st ≤ 100000
  rv : 0 ≤ rv ∧ rv ≤ 100000
  len : lad.length ≤ 8
  lad : LadOk lad
theorem ladG_inc : ∀ (lad : List RiseV) (pr : Option Int), ladG pr lad = true → (∀ r ∈ lad, 1 ≤ r.by_ ∧ r.by_ ≤ 100000) ∧ (∀ i, i + 1 < lad.length → (lad.getD i default).fr < (lad.getD (i + 1) default).fr)
  | [], _, _ => ⟨fun _ h => (by cases h), fun i h => (by simp at h)⟩
  | r :: l, pr, h => by
    rw [ladG, Bool.and_eq_true] at h
    obtain ⟨h1, h2⟩ := h
    obtain ⟨a, b⟩ := ladG_inc l _ h2
    have hb := btw_t.1 (Bool.and_eq_true_iff.1 h1).1
    refine ⟨fun q hq => ?_, fun i hi => ?_⟩
    · rcases List.mem_cons.1 hq with e | e
      · rw [e]; exact hb
      · exact a q e
    · cases i with
      | zero =>
        cases l with
        | nil => simp at hi
        | cons s l =>
          rw [ladG, Bool.and_eq_true] at h2
          have := btw_t.1 (Bool.and_eq_true_iff.1 h2.1).2
          show r.fr < s.fr
          omega
      | succ i => exact b i (by simpa using hi)
theorem lot_ok {st rv : Int} {lad : List RiseV} (h : lotB st rv lad = true) : LotOk st rv lad := by
  unfold lotB at h
  simp only [Bool.and_eq_true, btw_t] at h
  obtain ⟨⟨⟨⟨h1, h2⟩, h3⟩, h4⟩, h5⟩ := h
  obtain ⟨a, b⟩ := ladG_inc lad none h5
  exact ⟨h1, h2, by omega, ⟨by omega, by simpa using h4, b, a⟩⟩
theorem lotE_0 {st rv : Int} {lad : List RiseV} (h : (lotE st rv lad != 0) = false) : lotB st rv lad = true := by
  unfold lotE at h
  cases hb : lotB st rv lad with
  | true => rfl
  | false => rw [hb] at h; simp at h
theorem lotE_no {st rv : Int} {lad : List RiseV} (h : (lotE st rv lad != 0) = true) : lotB st rv lad = false := by
  unfold lotE at h
  cases hb : lotB st rv lad with
  | true => rw [hb] at h; simp at h
  | false => rfl
/-- the step from p at rung a of the ladder -/
theorem at_next {lad : List RiseV} (h : LadOk lad) {a : Nat} {p : Int} (h1 : a < lad.length) (h2 : (lad.getD a default).fr ≤ p) (h3 : ¬ (a + 1 < lad.length ∧ (lad.getD (a + 1) default).fr ≤ p)) : p + (lad.getD a default).by_ = nx lad p := by
  unfold nx
  rw [byR_at h ⟨h1, h2, fun h4 => by omega⟩]
theorem rg_get {lad : List RiseV} (h : LadOk lad) {st p : Int} {k : Nat} (h0 : 0 ≤ p) (hp : p ≤ 100000) (hd : (rgL lad st).drop k = rgL lad p) : (rgL lad st)[k]? = some p ∧ (rgL lad st).drop (k + 1) = rgL lad (nx lad p) := by
  rw [rgL_step h h0, if_pos hp] at hd
  refine ⟨?_, ?_⟩
  · have := congrArg (fun l => l[0]?) hd
    simpa using this
  · have := congrArg List.tail hd
    simpa using this
theorem rg_end {lad : List RiseV} (h : LadOk lad) {st p : Int} {k : Nat} (h0 : 0 ≤ p) (hp : ¬ p ≤ 100000) (hk : k ≤ (rgL lad st).length) (hd : (rgL lad st).drop k = rgL lad p) : k = (rgL lad st).length := by
  rw [rgL_step h h0, if_neg hp] at hd
  have := congrArg List.length hd
  simp at this
  omega
theorem rungF_drop (n out : Int) (rs : List Int) (k : Nat) (p : Int) (h : rs[k]? = some p) : rungF n (rs.drop k) out = if n < p then out else rungF n (rs.drop (k + 1)) p := by
  obtain ⟨h1, h2⟩ := List.getElem?_eq_some_iff.1 h
  rw [List.drop_eq_getElem_cons h1, h2, rungF]
theorem behF_drop (n : Int) (rs : List Int) (k : Nat) (p : Int) (h : rs[k]? = some p) : behF n (rs.drop k) = if n < p then p else behF n (rs.drop (k + 1)) := by
  obtain ⟨h1, h2⟩ := List.getElem?_eq_some_iff.1 h
  rw [List.drop_eq_getElem_cons h1, h2, behF]
def TB (J Jx : List Fact → Nat → World → Prop) (k : Nat) (b : Bool) (W : World) : Prop := if b = true then J [] k W else Jx [] k W
def rungR (st : Int) (lad : List RiseV) (n : Int) : Int := rungF n (rgL lad st) 0
/-- the reference's search for a rung -/
def refRung (st : Int) (lad : List RiseV) (n : Int) : Int := if n < st then 0 else refR lad (min n 100000) 100001 st
theorem refRung_eq {st rv : Int} {lad : List RiseV} (h : LotOk st rv lad) (n : Int) : refRung st lad n = rungR st lad n := by
  unfold refRung rungR
  by_cases hn : n < st
  · rw [if_pos hn, rgL_step h.lad (by have := h.st; omega), if_pos h.st.2, rungF, if_pos hn]
  · rw [if_neg hn]
    exact (refR_rung h.lad n 100001 st h.st.1 (by have := h.st; omega) (by have := h.st; omega)).1
theorem rung_bd {st rv : Int} {lad : List RiseV} (h : LotOk st rv lad) (n : Int) : 0 ≤ rungR st lad n ∧ rungR st lad n ≤ 100000 := by
  have ha := rgL_asc h.lad h.st.1
  unfold rungR
  rcases rungF_spec (n := n) _ 0 ha with ⟨e, _⟩ | ⟨a, _, _⟩
  · rw [e]; omega
  · have := ha.pos _ a; omega
theorem beh_bd {st rv : Int} {lad : List RiseV} (h : LotOk st rv lad) (n : Int) : 0 ≤ behF n (rgL lad st) ∧ behF n (rgL lad st) ≤ 100000 := by
  have ha := rgL_asc h.lad h.st.1
  rcases behF_spec (n := n) _ ha with ⟨e, _⟩ | ⟨a, _, _⟩
  · rw [e]; omega
  · have := ha.pos _ a; omega
theorem refR_s (lad : List RiseV) (m : Int) (k : Nat) (x : Int) : refR lad m (k + 1) x = if nx lad x ≤ m then refR lad m k (nx lad x) else x := rfl
theorem refR_fuel {lad : List RiseV} (h : LadOk lad) (m : Int) : ∀ (k : Nat) (x : Int), 0 ≤ x → m ≤ x + k → refR lad m (k + 1) x = refR lad m k x
  | 0, x, h0, hk => by
    have := byR_bd h h0
    rw [refR_s, if_neg (by unfold nx; omega)]; rfl
  | k + 1, x, h0, hk => by
    have := byR_bd h h0
    rw [refR_s lad m (k + 1) x, refR_s lad m k x]
    by_cases hn : nx lad x ≤ m
    · rw [if_pos hn, if_pos hn, refR_fuel h m k _ (by unfold nx; omega) (by unfold nx; omega)]
    · rw [if_neg hn, if_neg hn]
theorem resR_s (lad : List RiseV) (r : Int) (k : Nat) (x : Int) : resR lad r (k + 1) x = if x < r then resR lad r k (nx lad x) else x := rfl
theorem resR_fuel {lad : List RiseV} (h : LadOk lad) (r : Int) : ∀ (k : Nat) (x : Int), 0 ≤ x → r ≤ x + k → resR lad r (k + 1) x = resR lad r k x
  | 0, x, h0, hk => by rw [resR_s, if_neg (by omega)]; rfl
  | k + 1, x, h0, hk => by
    have := byR_bd h h0
    rw [resR_s lad r (k + 1) x, resR_s lad r k x]
    by_cases hn : x < r
    · rw [if_pos hn, if_pos hn, resR_fuel h r k _ (by unfold nx; omega) (by unfold nx; omega)]
    · rw [if_neg hn, if_neg hn]
theorem refR_step {lad : List RiseV} (h : LadOk lad) {m x : Int} (h0 : 0 ≤ x) (hm : m ≤ 100000) : refR lad m 100001 x = if nx lad x ≤ m then refR lad m 100001 (nx lad x) else x := by
  have := byR_bd h h0
  have hn : nx lad x = x + byR lad x := rfl
  rw [refR_s lad m 100000 x, refR_fuel h m 100000 (nx lad x) (by omega) (by omega)]
theorem resR_step {lad : List RiseV} (h : LadOk lad) {m x : Int} (h0 : 0 ≤ x) (hm : m ≤ 100000) : resR lad m 100001 x = if x < m then resR lad m 100001 (nx lad x) else x := by
  have := byR_bd h h0
  have hn : nx lad x = x + byR lad x := rfl
  rw [resR_s lad m 100000 x, resR_fuel h m 100000 (nx lad x) (by omega) (by omega)]
/-- the least rung that a lot is sold at -/
def leastR (st rv : Int) (lad : List RiseV) : Int := behF (rv - 1) (rgL lad st)
theorem leastR_eq {st rv : Int} {lad : List RiseV} (h : LotOk st rv lad) : (if 100000 < resR lad rv 100001 st then 0 else resR lad rv 100001 st) = leastR st rv lad :=
  resR_beh h.lad rv h.rv.2 100001 st h.st.1 (by have := h.st; omega)
/-- Rung and Next -/
def RungV (st rv : Int) (lad : List RiseV) (n : Int) : Int := if lotB st rv lad = true then rungR st lad n else 0
def RungE (st rv : Int) (lad : List RiseV) (n : Int) : Int := if lotB st rv lad = true then (if 0 < rungR st lad n then 0 else 4) else 60
def NextV (st rv : Int) (lad : List RiseV) (n : Int) : Int := if lotB st rv lad = true ∧ 0 < rungR st lad n ∧ rungR st lad n = n then behF n (rgL lad st) else 0
def NextE (st rv : Int) (lad : List RiseV) (n : Int) : Int := if lotB st rv lad = true then (if 0 < rungR st lad n ∧ rungR st lad n = n then (if 0 < behF n (rgL lad st) then 0 else 4) else 7) else 60
theorem rungE_60 {st rv : Int} {lad : List RiseV} {n : Int} (h : (RungE st rv lad n == 60) = true) : lotB st rv lad = false := by
  unfold RungE at h
  cases hb : lotB st rv lad with
  | false => rfl
  | true => rw [hb, if_pos rfl] at h; split at h <;> simp at h
theorem rungE_ok {st rv : Int} {lad : List RiseV} {n : Int} (h : (RungE st rv lad n == 60) = false) : lotB st rv lad = true := by
  unfold RungE at h
  cases hb : lotB st rv lad with
  | true => rfl
  | false => rw [hb] at h; simp at h
theorem next_no {st rv : Int} {lad : List RiseV} {n : Int} (hb : lotB st rv lad = true) (h : ((RungE st rv lad n != 0) || (RungV st rv lad n != n)) = true) : ¬ (0 < rungR st lad n ∧ rungR st lad n = n) := by
  unfold RungE RungV at h
  rw [hb, if_pos rfl, if_pos rfl] at h
  rintro ⟨h1, h2⟩
  rw [if_pos h1, h2] at h
  simp at h
theorem next_yes {st rv : Int} {lad : List RiseV} {n : Int} (hb : lotB st rv lad = true) (h : ((RungE st rv lad n != 0) || (RungV st rv lad n != n)) = false) : 0 < rungR st lad n ∧ rungR st lad n = n := by
  unfold RungE RungV at h
  rw [hb, if_pos rfl, if_pos rfl, Bool.or_eq_false_iff] at h
  obtain ⟨h1, h2⟩ := h
  refine ⟨?_, by simpa using h2⟩
  by_cases hp : 0 < rungR st lad n
  · exact hp
  · rw [if_neg hp] at h1; simp at h1
theorem rnext_no {st rv : Int} {lad : List RiseV} {n : Int} (hok : LotOk st rv lad) (h : ((decide (100000 < n) || (rungR st lad n != n)) || (n == 0)) = true) : ¬ (0 < rungR st lad n ∧ rungR st lad n = n) := by
  have := rung_bd hok n
  simp only [Bool.or_eq_true, decide_eq_true_eq, bne_iff_ne, beq_iff_eq] at h
  omega
theorem rnext_yes {st rv : Int} {lad : List RiseV} {n : Int} (hok : LotOk st rv lad) (h : ((decide (100000 < n) || (rungR st lad n != n)) || (n == 0)) = false) : 0 < rungR st lad n ∧ rungR st lad n = n := by
  have := rung_bd hok n
  simp only [Bool.or_eq_false_iff, decide_eq_false_iff_not, bne_eq_false_iff_eq, beq_eq_false_iff_ne] at h
  omega
theorem next_nx {st rv : Int} {lad : List RiseV} (h : LotOk st rv lad) {n : Int} (h0 : 0 < rungR st lad n) (h1 : rungR st lad n = n) : behF n (rgL lad st) = if nx lad n ≤ 100000 then nx lad n else 0 := by
  refine behL_next h.lad h.st.1 ?_
  rcases rungF_spec (n := n) (rgL lad st) 0 (rgL_asc h.lad h.st.1) with ⟨e, _⟩ | ⟨a, _, _⟩
  · unfold rungR at h0; rw [e] at h0; omega
  · unfold rungR at h1; rw [h1] at a; exact a
end Go.Proofs.YtppfniekcgnmjaaGreatDoor.Au
