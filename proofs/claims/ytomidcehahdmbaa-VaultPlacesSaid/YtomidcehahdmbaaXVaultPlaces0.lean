/- Texts of ours, joined: 11 of them. Conditions: none. -/
import Derived.Test.YtomidcehahdmbaaZh
import Derived.Test.YtomidcehahdmbaaProg
import Derived.Laws.StructEq
namespace Go.Proofs.Ytomidcehahdmbaa
open Go.Sx Go.RowKit
set_option maxRecDepth 20000

end Go.Proofs.Ytomidcehahdmbaa
namespace Go.Proofs.Ytomidcehahdmbaa
open Go.Sx Go.RowKit Vm
set_option maxRecDepth 20000
theorem k_Ring (n m : Int) (w : World) (hm : m ≤ 4611686018427387904) : Calls Try.prog 33 #[.int .i64 n, .int .i64 m] w (fun e w' => e = .returned (.int .i64 (ringI n m)) ∧ Grow w w') := by
  refine enter_pure (args := [.int .i64 n, .int .i64 m]) [] Try.func33 rfl (by rw [Try.ntmps33]; simp) (by simp) ?_
  refine cj_seq ?_
  refine cj_regionG (gj_step (y_assign rfl) rfl rfl rfl (gj_nil ?_))
  refine ej_th (cj_seq (cj_seq ?_))
  refine cj_regionG (gj_step (y_move rfl) rfl rfl rfl (gj_step (y_leq rfl rfl) rfl rfl rfl (gj_nil ?_)))
  refine ej_th ?_
  refine cj_cond rfl (fun h6 => ?_) (fun h6 => ?_)
  · have h6b := h6
    try simp only [sxb] at h6
    refine cj_seq ?_
    refine cj_regionG (gj_step (y_assign rfl) rfl rfl rfl (gj_nil ?_))
    refine ej_th (cj_ret (ej_then_ret ?_))
    refine ej_ret1 rfl Try.results33 rfl (fun w' hp => ⟨?_, hp.below⟩)
    rw [ringI, if_pos h6]
  · have h6b := h6
    try simp only [sxb] at h6
    refine cj_skip (ej_th (cj_seq ?_))
    refine cj_regionG (gj_step (y_move rfl) rfl rfl rfl (gj_step (y_move rfl) rfl rfl rfl (gj_step (y_remw rfl rfl (by omega)) rfl rfl rfl (gj_step (y_move rfl) rfl rfl rfl (gj_step (y_add rfl rfl (by have h1 := Int.tmod_lt_of_pos n (show 0 < m by omega); have h2 := Int.lt_tmod_of_pos n (show 0 < m by omega); omega)) rfl rfl rfl (gj_step (y_move rfl) rfl rfl rfl (gj_step (y_remw rfl rfl (by omega)) rfl rfl rfl (gj_step (y_assign rfl) rfl rfl rfl (gj_nil ?_)))))))))
    refine ej_th (cj_ret ?_)
    refine ej_ret1 rfl Try.results33 rfl (fun w' hp => ⟨?_, hp.below⟩)
    rw [ringI, if_neg (by omega)]

end Go.Proofs.Ytomidcehahdmbaa
namespace Vm
open Go.Proofs.Ytomidcehahdmbaa
theorem play_of {s : Str} {l : List CarryV} (hs : strB s = true) (hl : logB s l = true) : playE s l = (run s log0 l).2.2 ∧ playAt s l = (run s log0 l).2.1 := by
  unfold playE playAt
  rw [if_pos hs, if_pos hl, if_pos hs, if_pos hl]
  exact ⟨rfl, rfl⟩
theorem play_run {s : Str} {l : List CarryV} (h : playE s l = 0) : (run s log0 l).2.2 = 0 ∧ playB s l = (run s log0 l).1.bags ∧ playAt s l = l.length := by
  obtain ⟨hs, hl, _⟩ := play_0 h
  obtain ⟨h1, h2⟩ := play_of hs hl
  rw [h] at h1
  refine ⟨h1.symm, by unfold playB; rw [if_pos h], ?_⟩
  rw [h2, run_at s l log0 h1.symm]
theorem play_take {s : Str} {l : List CarryV} (h : playE s l = 0) {k : Nat} (hk : k ≤ l.length) : playE s (l.take k) = 0 ∧ playAt s (l.take k) = k := by
  obtain ⟨hs, hl, _⟩ := play_0 h
  have h1 := (play_run h).1
  have h2 := run_take s l log0 k h1
  obtain ⟨h3, _⟩ := play_of hs (logB_take hl k)
  have h4 : playE s (l.take k) = 0 := h3.trans h2
  refine ⟨h4, ?_⟩
  rw [(play_run h4).2.2, List.length_take, Nat.min_eq_left hk]
theorem run_step {s : Str} {st : LogV} {l : List CarryV} {k : Nat} {c : CarryV} (h : (run s st l).2.2 = 0) (hc : l[k]? = some c) : stepE s (run s st (l.take k)).1 c = 0 ∧ (run s st (l.take (k + 1))).1 = stepN (run s st (l.take k)).1 c := by
  have h1 := run_take s l st k h
  have h2 := run_take s l st (k + 1) h
  rw [List.take_add_one, hc, Option.toList_some] at h2 ⊢
  rw [run_snoc s _ _ _ h1] at h2 ⊢
  by_cases e : stepE s (run s st (l.take k)).1 c = 0
  · rw [if_pos e]
    exact ⟨e, rfl⟩
  · rw [if_neg e] at h2
    exact absurd h2 e
theorem play_next {s : Str} {l : List CarryV} {k : Nat} {c : CarryV} (h : playE s l = 0) (hc : l[k]? = some c) : playB s (l.take (k + 1)) = (playB s (l.take k)).set c.bag.toNat (newBag ((playB s (l.take k)).getD c.bag.toNat bag0) c) := by
  have hk : k < l.length := (List.getElem?_eq_some_iff.1 hc).1
  have h1 := (play_take h (k := k) (by omega)).1
  have h2 := (play_take h (k := k + 1) (by omega)).1
  rw [(play_run h1).2.1, (play_run h2).2.1, (run_step (play_run h).1 hc).2]
  rfl
theorem set_back {l : List BagV} {n : Nat} (u : BagV) (hn : n < l.length) : (l.set n u).set n (l.getD n bag0) = l := by
  rw [List.set_set, List.getD_eq_getElem?_getD, List.getElem?_eq_getElem hn, Option.getD_some, List.set_getElem_self]
theorem part_law {s : Str} {l : List CarryV} {k : Nat} {c : CarryV} (h : playE s l = 0) (hc : l[k]? = some c) (hb : 0 ≤ c.bag ∧ c.bag ≤ 31) : (playB s (l.take (k + 1))).set c.bag.toNat ((playB s (l.take k)).getD c.bag.toNat bag0) = playB s (l.take k) := by
  rw [play_next h hc]
  exact set_back _ (by rw [playB_len]; omega)
end Vm
namespace Go.Proofs.Ytomidcehahdmbaa
open Go Go.Sx Go.RowKit Vm
theorem tk_at {l : List BagV} (h : l.length = 32) {n : Int} (hn : 0 ≤ n ∧ n ≤ 31) : Tk 5 (0 + n.toNat * 5) (l.flatMap encBa) (encBa (l.getD n.toNat bag0)) := by
  rw [Nat.zero_add]
  exact tk_bag (bf_at h hn)
theorem set_at {l : List BagV} (h : l.length = 32) {n : Int} (hn : 0 ≤ n ∧ n ≤ 31) (u : BagV) : SetC (0 + n.toNat * 5) (encBa u) (l.flatMap encBa) ((l.set n.toNat u).flatMap encBa) := by
  have hb := bf_at h hn
  rw [flat_split encBa _ _ _ hb, flat_set encBa _ _ _ u hb]
  refine setC_mid _ (encBa (l.getD n.toNat bag0)) (encBa u) _ rfl ?_
  rw [flatMap_len encBa 5 enBa_len, List.length_take, h]
  omega
theorem encCa_one (x : CarryV) : ∀ v ∈ encCa x, v.oneCell' = true := by
  intro v hv
  simp only [encCa, List.mem_cons, List.mem_nil_iff, or_false] at hv
  rcases hv with rfl | rfl | rfl | rfl | rfl | rfl | rfl | rfl <;> rfl
end Go.Proofs.Ytomidcehahdmbaa
namespace Vm
open Go.Proofs.Ytomidcehahdmbaa
def roomK (s : Str) (l : List CarryV) (bag : Int) (k : Nat) : Int := ((playB s (l.take k)).getD bag.toNat bag0).room
theorem getD_set_ne {l : List BagV} {i j : Nat} (h : i ≠ j) (u : BagV) : (l.set i u).getD j bag0 = l.getD j bag0 := by
  rw [List.getD_eq_getElem?_getD, List.getD_eq_getElem?_getD, List.getElem?_set_ne h]
theorem getD_set_eq {l : List BagV} {i : Nat} (h : i < l.length) (u : BagV) : (l.set i u).getD i bag0 = u := by
  rw [List.getD_eq_getElem?_getD, List.getElem?_set_self h]; rfl
theorem play_bag (s : Str) (l : List CarryV) (n : Int) (hn : 0 ≤ n ∧ n ≤ 31) : (playB s l)[n.toNat]? = some ((playB s l).getD n.toNat bag0) := by
  have hlt : n.toNat < (playB s l).length := by rw [playB_len]; omega
  rw [List.getD_eq_getElem?_getD, List.getElem?_eq_getElem hlt]; rfl
theorem play_inv {s : Str} {l : List CarryV} (h : playE s l = 0) : Inv s (run s log0 l).1 := by
  obtain ⟨hs, hl, _⟩ := play_0 h
  exact Inv.run hs l log0 (Inv.start hs) (log_ok hl)
/-- What a valid carry that was done has shown. -/
theorem play_done {s : Str} {l : List CarryV} {k : Nat} {c : CarryV} (h : playE s l = 0) (hc : l[k]? = some c) : COk s c ∧ Done s (run s log0 (l.take k)).1 c ∧ (bagAt (run s log0 (l.take k)).1 c.bag) = (playB s (l.take k)).getD c.bag.toNat bag0 ∧ Inv s (run s log0 (l.take k)).1 := by
  have hk : k < l.length := (List.getElem?_eq_some_iff.1 hc).1
  have hco := log_ok (play_0 h).2.1 c (List.mem_of_getElem? hc)
  have h1 := (play_take h (k := k) (by omega)).1
  refine ⟨hco, Done.of hco.kind (run_step (play_run h).1 hc).1, ?_, play_inv h1⟩
  rw [(play_run h1).2.1]; rfl
theorem roomK_0 (s : Str) (l : List CarryV) (bag : Int) (hb : 0 ≤ bag ∧ bag ≤ 31) : roomK s l bag 0 = 0 := by
  have e : playB s (l.take 0) = bags0 := by
    unfold playB
    split
    · rw [List.take_zero]; rfl
    · rfl
  unfold roomK
  rw [e, List.getD_eq_getElem?_getD, List.getElem?_replicate, if_pos (by omega)]; rfl
theorem roomK_no {s : Str} {l : List CarryV} {bag : Int} {k : Nat} {c : CarryV} (h : playE s l = 0) (hb : 0 ≤ bag) (hc : l[k]? = some c) (e : c.bag ≠ bag) : roomK s l bag (k + 1) = roomK s l bag k := by
  have h1 := (log_ok (play_0 h).2.1 c (List.mem_of_getElem? hc)).bag
  unfold roomK
  rw [play_next h hc, getD_set_ne (by omega)]
theorem roomK_yes {s : Str} {l : List CarryV} {bag : Int} {k : Nat} {c : CarryV} (h : playE s l = 0) (hb : 0 ≤ bag ∧ bag ≤ 31) (hc : l[k]? = some c) (e : c.bag = bag) :
    (c.kind = 1 ∨ c.kind = 2 → roomK s l bag (k + 1) = c.to_) ∧ (c.kind = 3 ∨ c.kind = 4 → roomK s l bag (k + 1) = roomK s l bag k) ∧ (c.kind = 5 → roomK s l bag (k + 1) = 0) ∧ (c.kind ≠ 1 → roomK s l bag k ≠ 0) ∧ 1 ≤ c.kind ∧ c.kind ≤ 5 := by
  obtain ⟨hco, hd, hbg, _⟩ := play_done h hc
  have hr : roomK s l bag (k + 1) = (newBag ((playB s (l.take k)).getD bag.toNat bag0) c).room := by
    unfold roomK
    rw [play_next h hc, e, getD_set_eq (by rw [playB_len]; omega)]
  rw [e] at hbg
  have hz : roomK s l bag k = (bagAt (run s log0 (l.take k)).1 c.bag).room := by rw [e, hbg]; rfl
  refine ⟨fun hk => ?_, fun hk => ?_, fun hk => ?_, fun hk => ?_, hco.kind⟩
  · rw [hr, newBag]
    rcases hk with hk | hk
    · rw [if_pos hk]
    · rw [if_neg (by omega), if_pos hk]
  · rw [hr, newBag, if_neg (by omega), if_neg (by omega)]
    rcases hk with hk | hk
    · rw [if_pos hk]; rfl
    · rw [if_neg (by omega), if_pos hk]; rfl
  · rw [hr, newBag, if_neg (by omega), if_neg (by omega), if_neg (by omega), if_neg (by omega)]
  · rw [hz]
    cases hd with
    | in_ k1 => exact absurd k1 hk
    | move _ h1 => exact h1
    | check _ h1 => exact h1
    | open_ _ h1 => exact h1
    | out _ h1 => exact h1
theorem since_last {s : Str} {l : List CarryV} {bag : Int} (h : playE s l = 0) (hb : 0 ≤ bag ∧ bag ≤ 31) : ∀ k, k ≤ l.length → roomK s l bag k ≠ 0 → roomK s l bag k ∈ sinceL s l bag k
  | 0, _, hr => absurd (roomK_0 s l bag hb) hr
  | k + 1, hk, hr => by
    have hc : l[k]? = some l[k] := List.getElem?_eq_getElem hk
    by_cases e : (l[k]).bag = bag
    · rw [since_yes hc e]
      exact List.mem_append_right _ (List.mem_singleton.2 rfl)
    · rw [since_no hc e, roomK_no h hb.1 hc e]
      rw [roomK_no h hb.1 hc e] at hr
      exact since_last h hb k (by omega) hr
theorem susp_0 {s : Str} {l : List CarryV} {bag : Int} (h : suspE s l bag = 0) : playE s l = 0 ∧ (0 ≤ bag ∧ bag ≤ 31) ∧ roomK s l bag l.length ≠ 0 := by
  unfold suspE at h
  by_cases h1 : playE s l = 0
  · rw [if_pos h1] at h
    by_cases h2 : btw 0 bag 31 = true
    · rw [if_pos h2] at h
      refine ⟨h1, btw_t.1 h2, fun h3 => ?_⟩
      unfold roomK at h3
      rw [List.take_length] at h3
      rw [if_pos h3] at h; omega
    · rw [if_neg h2] at h; omega
  · rw [if_neg h1] at h; exact absurd h h1
theorem susp_lt {s : Str} (l : List Int) : ∀ x ∈ l.flatMap fun r => groupsV s r.toNat, x < 64 := fun x hx => by
  obtain ⟨r, _, hr⟩ := List.mem_flatMap.1 hx
  exact minL_lt hr
/-- Whoever was in one of the rooms is a suspect. -/
theorem swap_law {s : Str} {l : List CarryV} {bag : Int} (h : suspE s l bag = 0) {r : Int} (hr : r ∈ sinceL s l bag l.length) {g : Nat} (hg : g < 2 ^ s.staff.length) (hb : (reachV s g).testBit r.toNat = true) : (suspV s l bag).any (fun x => hasN g x) = true := by
  obtain ⟨h1, h2, _⟩ := susp_0 h
  obtain ⟨hs, _, _⟩ := play_0 h1
  rw [reach_some hs hg, List.any_eq_true] at hb
  obtain ⟨x, hx, hxg⟩ := hb
  have hF := susp_lt (s := s) (sinceL s l bag l.length)
  obtain ⟨t, ht, hts⟩ := minL_under hF (List.mem_flatMap.2 ⟨r, hr, hx⟩)
  rw [List.any_eq_true]
  refine ⟨t, by rw [suspV, if_pos h]; exact ht, ?_⟩
  rw [hasN_iff] at hxg ⊢
  exact hts.trans hxg
theorem bag_ok {s : Str} {l : List CarryV} {bag : Int} (h : playE s l = 0) (hb : 0 ≤ bag ∧ bag ≤ 31) (hr : roomK s l bag l.length ≠ 0) : ∃ m, BagOk s m ((playB s l).getD bag.toNat bag0) := by
  have hI := play_inv h
  have h1 := play_bag s l bag hb
  unfold roomK at hr
  rw [List.take_length] at hr
  rw [(play_run h).2.1] at h1 hr ⊢
  exact ⟨_, (hI.bags _ _ h1 hr).1⟩
theorem susp_some {s : Str} {l : List CarryV} {bag : Int} (h : suspE s l bag = 0) : suspV s l bag ≠ [] := by
  obtain ⟨h1, h2, h3⟩ := susp_0 h
  obtain ⟨hs, hl, _⟩ := play_0 h1
  obtain ⟨m, hk⟩ := bag_ok h1 h2 h3
  have hg : 2 ^ ((playB s l).getD bag.toNat bag0).by_.toNat ||| 2 ^ ((playB s l).getD bag.toNat bag0).with_.toNat < 2 ^ s.staff.length := by
    have := hk.by_
    have := hk.with_
    exact Nat.or_lt_two_pow (Nat.pow_lt_pow_right (by decide) (by omega)) (Nat.pow_lt_pow_right (by decide) (by omega))
  have h4 := swap_law h (since_last h1 h2 l.length (Nat.le_refl _) h3) hg (by unfold roomK; rw [List.take_length]; exact hk.reach)
  intro e
  rw [e] at h4
  cases h4
/-- A check behind valid carries. -/
theorem swap_check {s : Str} {l : List CarryV} {bag d wrong : Int} (h : suspE s l bag = 0) (hd : (l.getLast?.map (·.day)) = some d) (hw : 1 ≤ wrong ∧ wrong ≤ 999999) (b : BagV) (hb : (playB s l).getD bag.toNat bag0 = b) :
    (64 ≤ l.length → playE s (l ++ [⟨d, 3, bag, 0, b.by_, b.with_, wrong, 0⟩]) = 43)
    ∧ (l.length < 64 → (wrong = b.mark → playE s (l ++ [⟨d, 3, bag, 0, b.by_, b.with_, wrong, 0⟩]) = 0) ∧ (wrong ≠ b.mark → playE s (l ++ [⟨d, 3, bag, 0, b.by_, b.with_, wrong, 0⟩]) = 48 ∧ playAt s (l ++ [⟨d, 3, bag, 0, b.by_, b.with_, wrong, 0⟩]) = l.length)) := by
  obtain ⟨h1, h2, h3⟩ := susp_0 h
  obtain ⟨hs, hl, hl64⟩ := play_0 h1
  obtain ⟨m, hk⟩ := bag_ok h1 h2 h3
  rw [hb] at hk
  generalize hc : (⟨d, 3, bag, 0, b.by_, b.with_, wrong, 0⟩ : CarryV) = c
  refine ⟨fun h64 => ?_, fun h64 => ?_⟩
  · have : logB s (l ++ [c]) = false := by
      unfold logB
      rw [Bool.and_eq_false_iff, decide_eq_false_iff_not, List.length_append]
      right
      simp only [List.length_cons, List.length_nil]; omega
    unfold playE
    rw [if_pos hs, if_neg (by rw [this]; simp)]
  · have hne : l ≠ [] := by
      intro e
      rw [e] at hd; cases hd
    obtain ⟨x, hx⟩ : ∃ x, l.getLast? = some x := ⟨_, List.getLast?_eq_some_getLast hne⟩
    have hxd : x.day = d := by rw [hx] at hd; simpa using hd
    have hxo := log_ok hl x (List.mem_of_getLast? hx)
    have hd2 : d ≤ 36500 := by rw [← hxd]; exact hxo.day
    have hlb : logB s (l ++ [c]) = true := by
      unfold logB at hl ⊢
      rw [Bool.and_eq_true] at hl ⊢
      refine ⟨?_, by rw [decide_eq_true_iff, List.length_append]; simp only [List.length_cons, List.length_nil]; omega⟩
      rw [formB_app, hl.1, hd, Bool.true_and]
      show formB s d [c] = true
      rw [formB, formB, Bool.and_true]
      subst hc
      have k1 := hk.by_
      have k2 := hk.with_
      unfold carryB kindB
      simp only [Bool.and_eq_true, btw_t, Bool.not_eq_true', decide_eq_false_iff_not]
      refine ⟨⟨⟨⟨⟨⟨Int.le_refl _, hd2⟩, h2⟩, by omega⟩, by omega⟩, hk.ne⟩, ?_⟩
      have hw9 : btw 1 wrong 999999 = true := btw_t.2 hw
      simp [hw9]
    obtain ⟨p1, p2⟩ := play_of hs hlb
    have hr := run_snoc s l log0 c (play_run h1).1
    have hba : bagAt (run s log0 l).1 c.bag = b := by
      subst hc
      rw [← hb, (play_run h1).2.1]; rfl
    have hst : stepE s (run s log0 l).1 c = if b.mark = wrong then 0 else 48 := by
      unfold stepE
      rw [hba]
      have hrm := hk.room
      have hrc : (reachC s c).testBit b.room.toNat = true := by subst hc; exact hk.reach
      have hk3 : c.kind = 3 := by subst hc; rfl
      have hmk : c.mark = wrong := by subst hc; rfl
      rw [if_neg (by omega), if_neg (by omega), if_pos hrc, if_neg (by omega), if_pos hk3, hmk]
    rw [p1, p2, hr, hst]
    refine ⟨fun e => ?_, fun e => ?_⟩
    · rw [if_pos e.symm, if_pos rfl]
    · rw [if_neg (Ne.symm e), if_neg (by decide)]
      exact ⟨rfl, rfl⟩
/-! the law's loops -/
structure Sw (s : Str) (l : List CarryV) (bag : Int) (k : Nat) (rs : List Int) : Prop where
  le : k ≤ l.length
  rms : sinceL s l bag l.length = sinceL s l bag k ++ rs.reverse
  ne : roomK s l bag k ≠ 0
theorem Sw.start {s : Str} {l : List CarryV} {bag : Int} (h : suspE s l bag = 0) : Sw s l bag l.length [] := ⟨Nat.le_refl _, by simp, (susp_0 h).2.2⟩
theorem Sw.other {s : Str} {l : List CarryV} {bag : Int} (h : suspE s l bag = 0) {k : Nat} {rs : List Int} (hw : Sw s l bag (k + 1) rs) {c : CarryV} (hc : l[k]? = some c) (e : c.bag ≠ bag) : Sw s l bag k rs := by
  obtain ⟨h1, h2, _⟩ := susp_0 h
  exact ⟨by have := hw.le; omega, by rw [hw.rms, since_no hc e], by rw [← roomK_no h1 h2.1 hc e]; exact hw.ne⟩
theorem Sw.move {s : Str} {l : List CarryV} {bag : Int} (h : suspE s l bag = 0) {k : Nat} {rs : List Int} (hw : Sw s l bag (k + 1) rs) {c : CarryV} (hc : l[k]? = some c) (e : c.bag = bag) (k2 : c.kind = 2) : Sw s l bag k (rs ++ [c.to_]) := by
  obtain ⟨h1, h2, _⟩ := susp_0 h
  obtain ⟨p1, _, _, p4, _⟩ := roomK_yes h1 h2 hc e
  refine ⟨by have := hw.le; omega, ?_, p4 (by omega)⟩
  rw [hw.rms, since_yes hc e, if_pos k2]
  have : ((playB s (l.take (k + 1))).getD bag.toNat bag0).room = c.to_ := p1 (.inr k2)
  rw [this]; simp
theorem Sw.in_ {s : Str} {l : List CarryV} {bag : Int} (h : suspE s l bag = 0) {k : Nat} {rs : List Int} (hw : Sw s l bag (k + 1) rs) {c : CarryV} (hc : l[k]? = some c) (e : c.bag = bag) (k1 : c.kind = 1) : sinceL s l bag l.length = (rs ++ [c.to_]).reverse := by
  obtain ⟨h1, h2, _⟩ := susp_0 h
  obtain ⟨p1, _⟩ := roomK_yes h1 h2 hc e
  rw [hw.rms, since_yes hc e, if_neg (by omega)]
  have : ((playB s (l.take (k + 1))).getD bag.toNat bag0).room = c.to_ := p1 (.inl k1)
  rw [this]; simp
/-- Behind a check: the place is the one into which it was brought before. -/
structure Sx_ (s : Str) (l : List CarryV) (bag : Int) (r : Int) (k : Nat) : Prop where
  le : k ≤ l.length
  at_ : roomK s l bag k = r
  ne : r ≠ 0
theorem Sw.stay {s : Str} {l : List CarryV} {bag : Int} (h : suspE s l bag = 0) {k : Nat} {rs : List Int} (hw : Sw s l bag (k + 1) rs) {c : CarryV} (hc : l[k]? = some c) (e : c.bag = bag) (k1 : c.kind ≠ 1) (k2 : c.kind ≠ 2) : sinceL s l bag l.length = (rs ++ [roomK s l bag (k + 1)]).reverse ∧ Sx_ s l bag (roomK s l bag (k + 1)) k := by
  obtain ⟨h1, h2, _⟩ := susp_0 h
  obtain ⟨p1, p2, p3, p4, p5⟩ := roomK_yes h1 h2 hc e
  have hne := hw.ne
  have hk : c.kind = 3 ∨ c.kind = 4 := by
    by_cases h5 : c.kind = 5
    · exact absurd (p3 h5) hne
    · omega
  refine ⟨?_, ⟨by have := hw.le; omega, (p2 hk).symm, hne⟩⟩
  rw [hw.rms, since_yes hc e, if_neg k2]
  show [] ++ [roomK s l bag (k + 1)] ++ rs.reverse = _
  simp
theorem Sx_.end_ {s : Str} {l : List CarryV} {bag r : Int} (h : suspE s l bag = 0) (hx : Sx_ s l bag r 0) : False := hx.ne (by rw [← hx.at_]; exact roomK_0 s l bag (susp_0 h).2.1)
theorem Sw.end_ {s : Str} {l : List CarryV} {bag : Int} {rs : List Int} (h : suspE s l bag = 0) (hx : Sw s l bag 0 rs) : False := hx.ne (roomK_0 s l bag (susp_0 h).2.1)
theorem Sx_.found {s : Str} {l : List CarryV} {bag r : Int} (h : suspE s l bag = 0) {k : Nat} (hx : Sx_ s l bag r (k + 1)) {c : CarryV} (hc : l[k]? = some c) (e : c.bag = bag) (hk : c.kind = 1 ∨ c.kind = 2) : c.to_ = r := by
  obtain ⟨h1, h2, _⟩ := susp_0 h
  rw [← hx.at_, (roomK_yes h1 h2 hc e).1 hk]
theorem Sx_.on {s : Str} {l : List CarryV} {bag r : Int} (h : suspE s l bag = 0) {k : Nat} (hx : Sx_ s l bag r (k + 1)) {c : CarryV} (hc : l[k]? = some c) (e : ¬ (c.bag = bag ∧ (c.kind = 1 ∨ c.kind = 2))) : Sx_ s l bag r k := by
  obtain ⟨h1, h2, _⟩ := susp_0 h
  have hle := hx.le
  refine ⟨by omega, ?_, hx.ne⟩
  by_cases eb : c.bag = bag
  · obtain ⟨_, p2, p3, _, p5⟩ := roomK_yes h1 h2 hc eb
    have hn : ¬ (c.kind = 1 ∨ c.kind = 2) := fun hk => e ⟨eb, hk⟩
    have : c.kind ≠ 5 := fun h5 => hx.ne (by rw [← hx.at_, p3 h5])
    rw [← p2 (by omega), hx.at_]
  · rw [← roomK_no h1 h2.1 hc eb, hx.at_]
end Vm
namespace Vm
open Go.Proofs.Ytomidcehahdmbaa
def roomsV (s : Str) (l : List CarryV) (k : Nat) : List Int := (playB s (l.take k)).map (·.room)
theorem rooms_len (s : Str) (l : List CarryV) (k : Nat) : (roomsV s l k).length = 32 := by unfold roomsV; rw [List.length_map, playB_len]
theorem rooms_0 (s : Str) (l : List CarryV) : roomsV s l 0 = List.replicate 32 0 := by
  have e : playB s (l.take 0) = bags0 := by
    unfold playB
    split
    · rw [List.take_zero]; rfl
    · rfl
  unfold roomsV
  rw [e, List.map_replicate]
theorem rooms_at {s : Str} {l : List CarryV} {k : Nat} {n : Int} (hn : 0 ≤ n ∧ n ≤ 31) : (roomsV s l k)[n.toNat]? = some (roomK s l n k) := by
  unfold roomsV roomK
  rw [List.getElem?_map, play_bag s (l.take k) n hn]; rfl
/-- What a carry did to the rooms. -/
theorem rooms_step {s : Str} {l : List CarryV} {k : Nat} {c : CarryV} (h : playE s l = 0) (hc : l[k]? = some c) :
    (c.kind = 1 ∨ c.kind = 2 → roomsV s l (k + 1) = (roomsV s l k).set c.bag.toNat c.to_) ∧ (c.kind = 5 → roomsV s l (k + 1) = (roomsV s l k).set c.bag.toNat 0) ∧ (c.kind = 3 ∨ c.kind = 4 → roomsV s l (k + 1) = roomsV s l k) := by
  have hco := log_ok (play_0 h).2.1 c (List.mem_of_getElem? hc)
  have hb := hco.bag
  have hy := roomK_yes h hb hc rfl
  have hs : roomsV s l (k + 1) = (roomsV s l k).set c.bag.toNat (roomK s l c.bag (k + 1)) := by
    unfold roomsV
    have e : roomK s l c.bag (k + 1) = (newBag ((playB s (l.take k)).getD c.bag.toNat bag0) c).room := by
      unfold roomK
      rw [play_next h hc, getD_set_eq (by rw [playB_len]; omega)]
    rw [e, play_next h hc, List.map_set]
  refine ⟨fun k1 => by rw [hs, hy.1 k1], fun k5 => by rw [hs, hy.2.2.1 k5], fun k3 => ?_⟩
  rw [hs, hy.2.1 k3]
  have h1 := rooms_at (s := s) (l := l) (k := k) hb
  obtain ⟨h2, h3⟩ := List.getElem?_eq_some_iff.1 h1
  rw [← h3, List.set_getElem_self]
theorem room_bd {s : Str} {l : List CarryV} {k : Nat} (n : Int) (hn : 0 ≤ n ∧ n ≤ 31) : 0 ≤ roomK s l n k ∧ roomK s l n k ≤ 5 := play_num (s := s) (l.take k) hn
theorem reach_hall (s : Str) (g : Nat) : (reachV s g).testBit 0 = true := (reachF_sub s g _ 1) 0 (by decide)
/-- Those who carry reach where the bag was, and where it is. -/
theorem rooms_reach {s : Str} {l : List CarryV} {k : Nat} {c : CarryV} (h : playE s l = 0) (hc : l[k]? = some c) : (reachC s c).testBit (roomK s l c.bag k).toNat = true ∧ (reachC s c).testBit (roomK s l c.bag (k + 1)).toNat = true := by
  obtain ⟨hco, hd, hbg, hI⟩ := play_done h hc
  have hb := hco.bag
  have hy := roomK_yes h hb hc rfl
  have hz : roomK s l c.bag k = (bagAt (run s log0 (l.take k)).1 c.bag).room := by rw [hbg]; rfl
  rw [hz]
  cases hd with
  | in_ k1 h1 h2 =>
    rw [hy.1 (.inl k1)]
    refine ⟨?_, h2⟩
    have h9 : (bagAt (run s log0 (l.take k)).1 c.bag).room = 0 := by
      refine Decidable.byContradiction fun hne => ?_
      have h3 := (hI.bags _ _ (bagAt_get hI hb) hne).2
      rw [List.getD_eq_getElem?_getD, h3] at h1; cases h1
    rw [h9]
    exact reach_hall s (grpC c)
  | move k2 h1 h2 h3 => rw [hy.1 (.inr k2)]; exact ⟨h2, h3⟩
  | check k3 h1 h2 => rw [hy.2.1 (.inl k3), hz]; exact ⟨h2, h2⟩
  | open_ k4 h1 h2 => rw [hy.2.1 (.inr k4), hz]; exact ⟨h2, h2⟩
  | out k5 h1 h2 =>
    rw [hy.2.2.1 k5]
    exact ⟨h2, reach_hall s (grpC c)⟩
/-! where -/
theorem fidx_none {α : Type} (q : α → Bool) : ∀ (l : List α) (i : Int), (∀ x ∈ l, q x = false) → fidx q l i = -1
  | [], _, _ => rfl
  | x :: l, i, h => by
    rw [fidx, if_neg (by rw [h x (List.mem_cons_self ..)]; simp)]
    exact fidx_none q l _ fun y hy => h y (List.mem_cons_of_mem _ hy)
theorem fidx_at {α : Type} (q : α → Bool) : ∀ (l : List α) (i : Int) (k : Nat) (y : α), (∀ x ∈ l.take k, q x = false) → l[k]? = some y → q y = true → fidx q l i = i + k
  | [], _, _, _, _, h, _ => by cases h
  | x :: l, i, 0, y, _, h, hy => by
    have e : x = y := by simpa using h
    subst e
    rw [fidx, if_pos hy]; simp
  | x :: l, i, k + 1, y, h, hk, hy => by
    rw [List.take_succ_cons] at h
    rw [fidx, if_neg (by rw [h x (List.mem_cons_self ..)]; simp), fidx_at q l (i + 1) k y (fun z hz => h z (List.mem_cons_of_mem _ hz)) (by simpa using hk) hy]
    omega
theorem days_take {s : Str} {l : List CarryV} (h : logB s l = true) {k : Nat} {c : CarryV} (hc : l[k]? = some c) : 0 ≤ c.day ∧ c.day ≤ 36500 ∧ ∀ x ∈ l.take (k + 1), x.day ≤ c.day := by
  have h9 := h
  unfold logB at h9
  rw [Bool.and_eq_true] at h9
  obtain ⟨h1, h2⟩ := form_days s l 0 h9.1
  refine ⟨h1 c (List.mem_of_getElem? hc), (log_ok h c (List.mem_of_getElem? hc)).day, fun x hx => ?_⟩
  rw [List.take_add_one, hc, Option.toList_some, List.mem_append, List.mem_singleton] at hx
  rcases hx with hx | rfl
  · obtain ⟨i, hi⟩ := List.getElem?_of_mem hx
    rw [List.getElem?_take] at hi
    split at hi
    · rename_i hik
      obtain ⟨a1, a2⟩ := List.getElem?_eq_some_iff.1 hi
      obtain ⟨b1, b2⟩ := List.getElem?_eq_some_iff.1 hc
      rw [← a2, ← b2]
      exact List.pairwise_iff_getElem.1 h2 _ _ _ _ hik
    · cases hi
  · exact Int.le_refl _
theorem upto_at {s : Str} {l : List CarryV} (h : logB s l = true) {k : Nat} {c : CarryV} (hc : l[k]? = some c) (hn : k + 1 = l.length ∨ ∃ d, l[k + 1]? = some d ∧ c.day < d.day) : uptoN l c.day = k + 1 := by
  obtain ⟨_, _, h3⟩ := days_take h hc
  have hq : ∀ x ∈ l.take (k + 1), (decide (c.day < x.day)) = false := fun x hx => by
    rw [decide_eq_false_iff_not]
    have := h3 x hx; omega
  unfold uptoN afterI
  rcases hn with hn | ⟨d, hd, hdd⟩
  · rw [List.take_of_length_le (by omega)] at hq
    rw [fidx_none _ _ _ hq, if_pos (by decide), hn]
  · rw [fidx_at (fun x : CarryV => decide (c.day < x.day)) l 0 (k + 1) d hq hd (decide_eq_true hdd), if_neg (by omega)]
    omega
theorem where_at {s : Str} {l : List CarryV} (h : playE s l = 0) {k : Nat} {c : CarryV} (hc : l[k]? = some c) (hn : k + 1 = l.length ∨ ∃ d, l[k + 1]? = some d ∧ c.day < d.day) {n : Int} (hb : 0 ≤ n ∧ n ≤ 31) : whereE s l n c.day = 0 ∧ whereR s l n c.day = roomK s l n (k + 1) := by
  obtain ⟨_, hl, _⟩ := play_0 h
  obtain ⟨h1, h2, _⟩ := days_take hl hc
  have he : whereE s l n c.day = 0 := by
    unfold whereE
    rw [if_pos h, btw_t.2 hb, btw_t.2 ⟨h1, h2⟩]; rfl
  refine ⟨he, ?_⟩
  rw [whereR, if_pos he, upto_at hl hc hn]; rfl
theorem play_at_le (s : Str) (l : List CarryV) (h : playE s l ≠ 0) : playAt s l ≤ l.length - 1 := by
  unfold playE at h
  unfold playAt
  by_cases hs : strB s = true
  · rw [if_pos hs] at h ⊢
    by_cases hl : logB s l = true
    · rw [if_pos hl] at h ⊢
      have := (run_le s l log0).2 h
      omega
    · rw [if_neg hl]; omega
  · rw [if_neg hs]; omega
/-! what lies in the rooms -/
def cntL (b : List BagV) : List Int := (List.range 6).map fun r : Nat => if r = 0 then 0 else (manyN b (r : Int) : Int)
theorem cnt_len (b : List BagV) : (cntL b).length = 6 := rfl
theorem cnt_nil : cntL [] = List.replicate 6 0 := rfl
theorem cnt_at (b : List BagV) {r : Int} (h : 1 ≤ r ∧ r ≤ 5) : (cntL b)[r.toNat]? = some (manyN b r : Int) := by
  unfold cntL
  rw [List.getElem?_map, List.getElem?_range (by omega)]
  dsimp only [Option.map]
  rw [if_neg (by omega), Int.toNat_of_nonneg (by omega)]
theorem cntL_step0 {b : List BagV} {k : Nat} {x : BagV} (h : b[k]? = some x) (hx : x.room = 0) : cntL (b.take (k + 1)) = cntL (b.take k) := by
  unfold cntL
  refine List.map_congr_left fun r _ => ?_
  by_cases hr : r = 0
  · rw [if_pos hr, if_pos hr]
  · rw [if_neg hr, if_neg hr, many_step _ h, if_neg (by rw [hx]; omega)]; rfl
theorem cntL_step {b : List BagV} {k : Nat} {x : BagV} (h : b[k]? = some x) (hx : 1 ≤ x.room ∧ x.room ≤ 5) : cntL (b.take (k + 1)) = (cntL (b.take k)).set x.room.toNat ((manyN (b.take k) x.room : Int) + 1) := by
  refine List.ext_getElem? fun i => ?_
  by_cases hi : i < 6
  · by_cases e : x.room.toNat = i
    · rw [List.getElem?_set, if_pos e, if_pos (by rw [cnt_len]; omega)]
      rw [← e, cnt_at _ hx, many_step _ h, if_pos rfl]; simp
    · rw [List.getElem?_set_ne e]
      unfold cntL
      rw [List.getElem?_map, List.getElem?_map, List.getElem?_range hi]
      dsimp only [Option.map]
      by_cases hr : i = 0
      · rw [if_pos hr, if_pos hr]
      · rw [if_neg hr, if_neg hr, many_step _ h, if_neg (by omega)]; rfl
  · rw [List.getElem?_eq_none (by rw [cnt_len]; omega), List.getElem?_eq_none (by rw [List.length_set, cnt_len]; omega)]
theorem many_mono (b : List BagV) (k : Nat) (r : Int) : manyN (b.take k) r ≤ manyN b r := by
  unfold manyN
  conv => rhs; rw [← List.take_append_drop k b, List.countP_append]
  omega
/-- A bag that lies in a room. -/
theorem store_law {s : Str} {l : List CarryV} (h : playE s l = 0) {k : Nat} {x : BagV} (hx : (playB s l)[k]? = some x) :
    0 ≤ x.room ∧ x.room < s.rooms.length ∧ x.room ≤ 5 ∧ (x.room ≠ 0 → (manyN ((playB s l).take (k + 1)) x.room : Int) ≤ (roomAt s x.room).hold ∧ s.rooms[x.room.toNat]? = some (roomAt s x.room) ∧ 0 ≤ (roomAt s x.room).climate ∧ (roomAt s x.room).climate ≤ 3 ∧ 0 ≤ x.suits ∧ x.suits ≤ 15 ∧ x.suits.toNat.testBit (roomAt s x.room).climate.toNat = true
      ∧ ∀ i y, i < k → (playB s l)[i]? = some y → y.room ≠ 0 → y.mark ≠ x.mark) := by
  have hI := play_inv h
  have hB := (play_run h).2.1
  obtain ⟨hs, _, _⟩ := play_0 h
  have hr1 := (rooms_le hs).1
  rw [hB] at hx ⊢
  have hn := hI.nums _ _ hx
  by_cases h0 : x.room = 0
  · exact ⟨hn.1, by omega, hn.2.1, fun h => absurd h0 h⟩
  · obtain ⟨hk, _⟩ := hI.bags _ _ hx h0
    have hrm := hk.room
    obtain ⟨r1, r2, r3, r4, r5⟩ := roomAt_ok hs (show 0 ≤ x.room by omega) hrm.2
    have hh := hI.holds x.room hrm.1 hrm.2
    have hm := many_mono (run s log0 l).1.bags (k + 1) x.room
    refine ⟨hn.1, hrm.2, hn.2.1, fun _ => ⟨by omega, r1, r4, r5, hk.suits.1, hk.suits.2.1, hk.suits.2.2, fun i y hi hy hyr => hI.seals i k y x hy hx hyr h0 (by omega)⟩⟩
end Vm
namespace Go.Proofs.Ytomidcehahdmbaa
open Go Go.Sx Go.RowKit Vm
theorem bf_cell {l : List BagV} {k : Nat} {b : BagV} (h : l[k]? = some b) {j : Nat} (hj : j < 5) : (l.flatMap encBa)[0 + k * 5 + j]? = (encBa b)[j]? := by
  rw [Nat.zero_add]
  exact flatMap_get encBa 5 enBa_len _ _ _ j h hj
theorem bit_rng {s : Str} {c : CarryV} (h : COk s c) (hs : strB s = true) : 0 ≤ c.by_ ∧ c.by_ ≤ 5 ∧ 0 ≤ c.with_ ∧ c.with_ ≤ 5 := by
  have h1 := (rooms_le hs).2.2.2.1
  have h2 := h.by_
  have h3 := h.with_
  omega
end Go.Proofs.Ytomidcehahdmbaa
namespace Go.Sx
open Go.RowKit
section
variable {C : Cx} {L : Regs} {O S : List Fact} {ty : TypeId} {pos : String} {aft : Array Edge} {dst : Option Tmp} {gu : Option (Nat × Bool)} {t t' : TypeId} {x y : Operand}
def orZ (a b : Int) : Int := IntKind.i64.wrap ((BitVec.ofInt 64 a ||| BitVec.ofInt 64 b).toNat : Int)
def andZ (a : Int) (c : Nat) : Nat := (BitVec.ofInt 64 a &&& BitVec.ofInt 64 (c : Int)).toNat
theorem bv_wrap (z : Int) : BitVec.ofInt 64 (IntKind.i64.wrap z) = BitVec.ofInt 64 z := by
  rw [IntKind.wrap_i64]
  apply BitVec.eq_of_toNat_eq
  rw [BitVec.toNat_ofInt, BitVec.toNat_ofInt]
  omega
theorem bv_nat (m : Nat) : BitVec.ofInt 64 (m : Int) = BitVec.ofNat 64 m := BitVec.ofInt_natCast ..
theorem and_bit {a : Int} {c i : Nat} (hc : c < 2 ^ 62) : (andZ a c).testBit i = ((BitVec.ofInt 64 a).getLsbD i && c.testBit i) := by
  unfold andZ
  rw [BitVec.testBit_toNat, BitVec.getLsbD_and]
  congr 1
  rw [← BitVec.testBit_toNat, nat_bv c (by omega)]
theorem and_le {a : Int} {c : Nat} (hc : c < 2 ^ 62) : andZ a c ≤ c := by
  have e : andZ a c &&& c = andZ a c := Nat.eq_of_testBit_eq fun i => by
    rw [Nat.testBit_and, and_bit hc]
    cases (BitVec.ofInt 64 a).getLsbD i <;> cases c.testBit i <;> rfl
  rw [← e]; exact Nat.and_le_right
theorem and_or {p c i : Nat} {n : Int} (hp : p < 2 ^ 62) (hc : c < 2 ^ 62) (h : p.testBit i = true) (h2 : c.testBit i = true) : (andZ (orZ p n) c).testBit i = true := by
  rw [and_bit hc, h2, Bool.and_true, orZ, bv_wrap, bv_nat, BitVec.ofNat_toNat, BitVec.setWidth_eq, BitVec.getLsbD_or, ← BitVec.testBit_toNat, nat_bv p (by omega), h, Bool.true_or]
theorem y_orZ {m n : Int} (hx : val L x = some (.int .i64 m)) (hy : val L y = some (.int .i64 n)) : Yi C ⟨dst, .binOp .or t x y t', ty, pos, aft, gu⟩ L O S (.int .i64 (orZ m n)) :=
  yi_val (by intro c h; cases h) fun a w hr _ => by
    have e : binOp .or t (.int .i64 m) (.int .i64 n) = pure (.int .i64 (orZ m n)) := by
      unfold binOp
      simp only [ne_eq, not_true_eq_false, if_false]
      rfl
    simp [execOp, hr.val hx, hr.val hy, eqGuard, e]
theorem y_andZ {m : Int} {c : Nat} (hx : val L x = some (.int .i64 m)) (hy : val L y = some (.int .i64 (c : Nat))) (hc : c < 2 ^ 62) : Yi C ⟨dst, .binOp .and t x y t', ty, pos, aft, gu⟩ L O S (.int .i64 ((andZ m c : Nat) : Int)) :=
  yi_val (by intro c h; cases h) fun a w hr _ => by
    have h1 : IntKind.i64.wrap ((andZ m c : Nat) : Int) = ((andZ m c : Nat) : Int) := IntWalk.i64_in _ (by have := and_le (a := m) hc; omega)
    have e : binOp .and t (.int .i64 m) (.int .i64 (c : Int)) = pure (.int .i64 ((andZ m c : Nat) : Int)) := by
      unfold binOp
      simp only [ne_eq, not_true_eq_false, if_false]
      exact congrArg (fun z => (pure (Value.int .i64 z) : Sem Value)) h1
    simp [execOp, hr.val hx, hr.val hy, eqGuard, e]
/-- An element of a slice whose length is known in other words. -/
theorem y_ixRm {α : Type} {m s e n c sz : Nat} {A : Option Addr} {i : Int} {k : IntKind} {enc : α → List Value} {xs : List α} (hm : m = xs.length) (hr0 : Reads C O S sz enc A xs) (hu : C.P.underlying s = some (.slice e)) (hs : ∀ w, (sizeOf e).run C.P w = .ok n w) (hx : val L x = some (.slice A m c)) (hy : val L y = some (.int k i)) (hi : 0 ≤ i ∧ i < m) :
    Yi C ⟨dst, .indexAddr s x y, ty, pos, aft, gu⟩ L O S (.pointer (some (at_ A (i.toNat * n)))) := by
  subst hm
  exact y_ixR hr0 hu hs hx hy hi
end
end Go.Sx
namespace Go.Proofs.Ytomidcehahdmbaa
open Go.Sx Go.RowKit
set_option maxRecDepth 20000

end Go.Proofs.Ytomidcehahdmbaa
namespace Go.Proofs.Ytomidcehahdmbaa
open Go.Sx Go.RowKit
set_option maxRecDepth 20000

end Go.Proofs.Ytomidcehahdmbaa
namespace Go.Proofs.Ytomidcehahdmbaa
open Go.Sx Go.RowKit Vm
set_option maxRecDepth 20000
theorem k_BitZ (a r : Int) (w : World) (ha : 0 ≤ a) (h0 : 0 ≤ r) (h1 : r ≤ 64) : Calls Try.prog 29 #[.int .i64 a, .int .i64 r] w (fun e w' => e = .returned (.bool (a.toNat.testBit r.toNat)) ∧ Grow w w') := by
  obtain ⟨m, rfl⟩ : ∃ m : Nat, a = m := ⟨a.toNat, by omega⟩
  exact k_BitI m r w ⟨h0, h1⟩

set_option maxHeartbeats 3200000 in
theorem k_stored (s : StrV) (l : List CarryV) (Am : Option Addr) (cm : Nat) (w : World) (hs : StrRd w s) (h0 : playE s.s l = 0) (hm : Rd w 1 enInt Am (roomsV s.s l l.length)) : Calls Try.prog 32 #[.agg #[.slice s.Ar s.rooms.length s.cr, .slice s.Ag s.gates.length s.cg, .slice s.As s.staff.length s.cs], .agg ((playB s.s l).flatMap encBa).toArray, .slice Am 32 cm] w (fun e w' => e = .returned (.bool true) ∧ Grow w w') := by
  obtain ⟨hb, hlb, hl64⟩ := play_0 h0
  have hpl := playB_len (s := s.s) l
  have hok := StrOk.of hb
  have hnr := hok.nr
  have hng := hok.ng
  have hns := hok.ns
  refine enter_pure (args := [.agg #[.slice s.Ar s.rooms.length s.cr, .slice s.Ag s.gates.length s.cg, .slice s.As s.staff.length s.cs], .agg ((playB s.s l).flatMap encBa).toArray, .slice Am 32 cm]) [sl (fun b => b < w.heap.size) 3 encRo s.Ar s.rooms, sl (fun b => b < w.heap.size) 4 encGa s.Ag s.gates, sl (fun b => b < w.heap.size) 1 enInt s.As s.staff, sl (fun b => b < w.heap.size) 1 enInt Am (roomsV s.s l l.length)] Try.func32 rfl (by rw [Try.ntmps32]; simp) (fun g hg => by simp at hg; rcases hg with rfl | rfl | rfl | rfl; exact ⟨hs.rooms, fun _ h => h⟩; exact ⟨hs.gates, fun _ h => h⟩; exact ⟨hs.staff, fun _ h => h⟩; exact ⟨hm, fun _ h => h⟩) ?_
  refine cj_seq (cj_region ?_)
  refine oj_box rfl rfl rfl (fun b3 => ?_)
  refine oj_box rfl rfl rfl (fun b4 => ?_)
  refine oj_step (y_assign rfl) rfl rfl rfl ?_
  refine oj_nil ?_
  refine ej_th (cj_seq (cj_region ?_))
  refine oj_makeSlice1 (n := 6) Try.underlying24 Try.type3 rfl rfl rfl rfl rfl (by decide) (by decide) rfl (fun b11 => ?_)
  refine oj_litOw (b := b11) (e := 3) (c := 6) (sz := 1) (enc := enInt) (List.replicate 6 (0 : Int)) rfl rfl rfl (by unfold maxLen; decide) ?_
  refine oj_step (y_assign rfl) rfl rfl rfl ?_
  refine oj_nil ?_
  refine ej_th (cj_seq (cj_seq ?_))
  refine cj_regionG (gj_step (y_assign rfl) rfl rfl rfl (gj_nil ?_))
  refine ej_th (cj_block ?_)
  refine cj_eqO [ow 3 1 enInt (some ⟨b11, 0, none⟩) 6 (cntL ((playB s.s l).take 0)), ownB b4 (cellsB 48 ((playB s.s l).flatMap encBa)), ownB b3 (cellsB 26 [.slice s.Ar s.rooms.length s.cr, .slice s.Ag s.gates.length s.cg, .slice s.As s.staff.length s.cs])] rfl ?_
  refine cj_lpi (X := Nat) [(2, _), (3, _), (4, _), (7, _)] (fun k => k ≤ 32) (fun k => [(8, .int .i64 (k : Nat))]) (fun k => [ow 3 1 enInt (some ⟨b11, 0, none⟩) 6 (cntL ((playB s.s l).take k)), ownB b4 (cellsB 48 ((playB s.s l).flatMap encBa)), ownB b3 (cellsB 26 [.slice s.Ar s.rooms.length s.cr, .slice s.Ag s.gates.length s.cg, .slice s.As s.staff.length s.cs])]) (fun k => [sl (fun b => b < w.heap.size) 3 encRo s.Ar s.rooms, sl (fun b => b < w.heap.size) 4 encGa s.Ag s.gates, sl (fun b => b < w.heap.size) 1 enInt s.As s.staff, sl (fun b => b < w.heap.size) 1 enInt Am (roomsV s.s l l.length)]) (fun k => 32 - k) 0 (by omega) ⟨rfl, rfl, rfl, rfl, rfl, trivial⟩ ?_
  rintro k hk
  dsimp only [List.cons_append, List.nil_append]
  refine cj_seq (cj_seq ?_)
  refine cj_regionG (gj_step (y_move rfl) rfl rfl rfl (gj_step (y_lss rfl rfl) rfl rfl rfl (gj_nil ?_)))
  refine ej_th ?_
  refine cj_cond rfl (fun h13 => ?_) (fun h13 => ?_)
  · have h13b := h13
    try simp only [sxb] at h13
    obtain ⟨x, hx⟩ : ∃ x, (playB s.s l)[k]? = some x := ⟨_, List.getElem?_eq_getElem (by omega)⟩
    have htk : Tk 5 (0 + ((k : Nat) : Int).toNat * 5) ((playB s.s l).flatMap encBa) (encBa x) := by rw [Int.toNat_natCast, Nat.zero_add]; exact tk_bag hx
    obtain ⟨hs0, hs1, hs5, hs9⟩ := store_law h0 hx
    have hs1 : x.room < s.rooms.length := hs1
    have hrk : (roomsV s.s l l.length)[((k : Nat) : Int).toNat]? = some x.room := by
      unfold roomsV
      rw [List.take_length, Int.toNat_natCast, List.getElem?_map, hx]; rfl
    have hbt : btw 0 x.room ((s.rooms.length : Int) - 1) = true := btw_t.2 (by omega)
    refine cj_skip (ej_th (cj_seq (cj_block (cj_seq (cj_region ?_)))))
    refine oj_step (y_move rfl) rfl rfl rfl ?_
    refine oj_step (y_ixArr Try.underlying48 Try.sizeOf47 rfl rfl (by omega)) rfl rfl rfl ?_
    refine oj_step (y_loadN (hv := htk) Try.isAgg47 Try.sizeOf47 rfl) rfl rfl rfl ?_
    refine oj_alloc Try.zeroValue47 rfl rfl (fun b9 => ?_)
    refine oj_store rfl rfl rfl rfl Try.sizeOf47 rfl ?_
    refine oj_nil ?_
    refine ej_th (cj_seq (cj_seq ?_))
    refine cj_draw (by kernel_rfl) (by kernel_rfl) ?_
    refine gj_step (y_fa0 fa47_0 rfl) rfl rfl rfl (gj_step (y_load1 Try.isAgg3 rfl rfl) rfl rfl rfl (gj_step (y_move rfl) rfl rfl rfl (gj_step (y_move rfl) rfl rfl rfl (gj_step (y_ixRm (m := 32) (xs := (roomsV s.s l l.length)) (by rw [rooms_len]) (reads_sl) Try.underlying24 Try.sizeOf3 rfl rfl (⟨by omega, by omega⟩)) rfl rfl rfl (gj_step (y_ld0 (reads_sl) Try.isAgg3 rfl (hrk) rfl) rfl rfl rfl (gj_step (y_neq rfl rfl) rfl rfl rfl (gj_step (y_move rfl) rfl rfl rfl (?_))))))))
    refine gj_g 8 26 34 rfl rfl rfl rfl (fun hg26 => gj_yes rfl rfl rfl (y_fa0 fa47_0 rfl) rfl rfl (gj_yes rfl rfl rfl (y_load1 Try.isAgg3 rfl rfl) rfl rfl (gj_yes rfl rfl rfl (y_fa0 fa26_0 rfl) rfl rfl (gj_yes rfl rfl rfl (y_load1 Try.isAgg22 rfl rfl) rfl rfl (gj_yes rfl rfl rfl (y_lenA Try.underlying22 rfl) rfl rfl (gj_yes rfl rfl rfl (y_sub rfl rfl (by omega)) rfl rfl (gj_yes rfl rfl rfl (y_call Try.call27 rfl (fun w hp => k_From _ _ _ w)) rfl rfl (gj_yes rfl rfl rfl (y_not rfl) rfl rfl (gj_nil rfl))))))))) ?_
    refine gj_step (y_or rfl rfl rfl) rfl rfl rfl (?_)
    refine gj_nil ?_
    refine ej_th ?_
    refine cj_cond rfl (fun h35 => ?_) (fun h35 => ?_)
    · simp [hbt] at h35
    · have h35b := h35
      try simp only [sxb] at h35
      refine cj_skip (ej_th (cj_seq (cj_seq ?_)))
      refine cj_regionG (gj_step (y_fa0 fa47_0 rfl) rfl rfl rfl (gj_step (y_load1 Try.isAgg3 rfl rfl) rfl rfl rfl (gj_step (y_eql rfl rfl) rfl rfl rfl (gj_nil ?_))))
      refine ej_th ?_
      refine cj_cond rfl (fun h38 => ?_) (fun h38 => ?_)
      · have h38b := h38
        try simp only [sxb] at h38
        have hct := cntL_step0 hx h38
        refine cj_exit (ej_then_exit (ej_blk_hit (ej_th ?_)))
        refine cj_regionG (gj_step (y_move rfl) rfl rfl rfl (gj_step (y_add rfl rfl (by omega)) rfl rfl rfl (gj_step (y_assign rfl) rfl rfl rfl (gj_nil ?_))))
        rw [← hct]
        exact ej_nx (k + 1) (by omega) (by omega) ⟨rfl, rfl, rfl, rfl, rfl, trivial⟩
      · have h38b := h38
        try simp only [sxb] at h38
        obtain ⟨hh1, hrm, hh2, hh3, hh4, hh5, hh6, hh7⟩ := hs9 h38
        have hb15 : 1 ≤ x.room ∧ x.room ≤ 5 := by omega
        have hct := cntL_step hx hb15
        have hcl := cnt_len ((playB s.s l).take k)
        have hmn : manyN ((playB s.s l).take k) x.room ≤ 32 := by unfold manyN; exact Nat.le_trans List.countP_le_length (by rw [List.length_take]; omega)
        have hrm : s.rooms[x.room.toNat]? = some (roomAt s.s x.room) := hrm
        refine cj_skip (ej_th (cj_seq (cj_region ?_)))
        refine oj_step (y_move rfl) rfl rfl rfl ?_
        refine oj_step (y_fa0 fa47_0 rfl) rfl rfl rfl ?_
        refine oj_step (y_load1 Try.isAgg3 rfl rfl) rfl rfl rfl ?_
        refine oj_step (y_ixRm (m := 6) (xs := cntL ((playB s.s l).take k)) (rfl) (reads_owI) Try.underlying24 Try.sizeOf3 rfl rfl (⟨by omega, by omega⟩)) rfl rfl rfl ?_
        refine oj_step (y_ld0 (reads_owI) Try.isAgg3 rfl (cnt_at ((playB s.s l).take k) hb15) rfl) rfl rfl rfl ?_
        refine oj_step (y_add rfl rfl (by omega)) rfl rfl rfl ?_
        refine oj_step (y_ixRm (m := 6) (xs := cntL ((playB s.s l).take k)) (rfl) (reads_owI) Try.underlying24 Try.sizeOf3 rfl rfl (⟨by omega, by omega⟩)) rfl rfl rfl ?_
        refine oj_storeE (i := x.room.toNat) (u := ((manyN ((playB s.s l).take k) x.room : Int) + 1)) rfl rfl rfl rfl Try.sizeOf3 (fun _ => rfl) (by first | omega | (simp only [List.length_set]; omega) | (simp; omega)) ?_
        refine oj_nil ?_
        refine ej_th (cj_seq (cj_seq ?_))
        rw [← hct]
        refine cj_draw (by kernel_rfl) (by kernel_rfl) ?_
        refine gj_step (y_move rfl) rfl rfl rfl (gj_step (y_fa0 fa47_0 rfl) rfl rfl rfl (gj_step (y_load1 Try.isAgg3 rfl rfl) rfl rfl rfl (gj_step (y_ixRm (m := 6) (xs := cntL ((playB s.s l).take (k + 1))) (rfl) (reads_owI) Try.underlying24 Try.sizeOf3 rfl rfl (⟨by omega, by omega⟩)) rfl rfl rfl (gj_step (y_ld0 (reads_owI) Try.isAgg3 rfl (cnt_at ((playB s.s l).take (k + 1)) hb15) rfl) rfl rfl rfl (gj_step (y_fa0 fa26_0 rfl) rfl rfl rfl (gj_step (y_load1 Try.isAgg22 rfl rfl) rfl rfl rfl (gj_step (y_fa0 fa47_0 rfl) rfl rfl rfl (gj_step (y_load1 Try.isAgg3 rfl rfl) rfl rfl rfl (gj_step (y_ixR (reads_sl) Try.underlying22 Try.sizeOf71 rfl rfl (⟨by omega, by omega⟩)) rfl rfl rfl (gj_step (y_faE fa71_0 rfl) rfl rfl rfl (gj_step (y_ld1 (reads_sl) Try.isAgg3 rfl (hrm) rfl) rfl rfl rfl (gj_step (y_gtr rfl rfl) rfl rfl rfl (gj_step (y_move rfl) rfl rfl rfl (?_))))))))))))))
        refine gj_g 9 59 68 rfl rfl rfl rfl (fun hg59 => gj_yes rfl rfl rfl (y_fa0 fa26_0 rfl) rfl rfl (gj_yes rfl rfl rfl (y_load1 Try.isAgg22 rfl rfl) rfl rfl (gj_yes rfl rfl rfl (y_fa0 fa47_0 rfl) rfl rfl (gj_yes rfl rfl rfl (y_load1 Try.isAgg3 rfl rfl) rfl rfl (gj_yes rfl rfl rfl (y_ixR (reads_sl) Try.underlying22 Try.sizeOf71 rfl rfl (⟨by omega, by omega⟩)) rfl rfl (gj_yes rfl rfl rfl (y_faE fa71_1 rfl) rfl rfl (gj_yes rfl rfl rfl (y_ld1 (reads_sl) Try.isAgg3 rfl (hrm) rfl) rfl rfl (gj_yes rfl rfl rfl (y_call Try.call27 rfl (fun w hp => k_From _ _ _ w)) rfl rfl (gj_yes rfl rfl rfl (y_not rfl) rfl rfl (gj_nil rfl)))))))))) ?_
        refine gj_step (y_or rfl rfl rfl) rfl rfl rfl (gj_step (y_move rfl) rfl rfl rfl (?_))
        refine gj_g 11 70 81 rfl rfl rfl rfl (fun hg70 => gj_yes rfl rfl rfl (y_fa fa47_2 rfl) rfl rfl (gj_yes rfl rfl rfl (y_load1 Try.isAgg3 rfl rfl) rfl rfl (gj_yes rfl rfl rfl (y_fa0 fa26_0 rfl) rfl rfl (gj_yes rfl rfl rfl (y_load1 Try.isAgg22 rfl rfl) rfl rfl (gj_yes rfl rfl rfl (y_fa0 fa47_0 rfl) rfl rfl (gj_yes rfl rfl rfl (y_load1 Try.isAgg3 rfl rfl) rfl rfl (gj_yes rfl rfl rfl (y_ixR (reads_sl) Try.underlying22 Try.sizeOf71 rfl rfl (⟨by omega, by omega⟩)) rfl rfl (gj_yes rfl rfl rfl (y_faE fa71_1 rfl) rfl rfl (gj_yes rfl rfl rfl (y_ld1 (reads_sl) Try.isAgg3 rfl (hrm) rfl) rfl rfl (gj_yes rfl rfl rfl (y_call Try.call29 rfl (fun w hp => k_BitZ x.suits (roomAt s.s x.room).climate w (by omega) (by omega) (by omega))) rfl rfl (gj_yes rfl rfl rfl (y_not rfl) rfl rfl (gj_nil rfl)))))))))))) ?_
        refine gj_step (y_or rfl rfl rfl) rfl rfl rfl (?_)
        refine gj_nil ?_
        refine ej_th ?_
        refine cj_cond rfl (fun h82 => ?_) (fun h82 => ?_)
        · have e1 : ¬ (roomAt s.s x.room).hold < (manyN ((playB s.s l).take (k + 1)) x.room : Int) := by omega
          have e2 : btw 0 (roomAt s.s x.room).climate 3 = true := btw_t.2 (by omega)
          simp [e1, e2, hh6] at h82
        · have h82b := h82
          try simp only [sxb] at h82
          refine cj_skip (ej_th (cj_seq ?_))
          refine cj_regionG (gj_step (y_assign rfl) rfl rfl rfl (gj_nil ?_))
          refine ej_th (cj_block ?_)
          refine cj_takes [ownB b9 (cellsB 47 (encBa x)), ow 3 1 enInt (some ⟨b11, 0, none⟩) 6 (cntL ((playB s.s l).take (k + 1))), ownB b4 (cellsB 48 ((playB s.s l).flatMap encBa)), ownB b3 (cellsB 26 [.slice s.Ar s.rooms.length s.cr, .slice s.Ag s.gates.length s.cg, .slice s.As s.staff.length s.cs])] ?_
          refine cj_lpi (X := Nat) [(8, _), (2, _), (3, _), (4, _), (7, _), (9, _)] (fun i => i ≤ k) (fun i => [(10, .int .i64 (i : Nat))]) (fun i => [ownB b9 (cellsB 47 (encBa x)), ow 3 1 enInt (some ⟨b11, 0, none⟩) 6 (cntL ((playB s.s l).take (k + 1))), ownB b4 (cellsB 48 ((playB s.s l).flatMap encBa)), ownB b3 (cellsB 26 [.slice s.Ar s.rooms.length s.cr, .slice s.Ag s.gates.length s.cg, .slice s.As s.staff.length s.cs])]) (fun i => [sl (fun b => b < w.heap.size) 3 encRo s.Ar s.rooms, sl (fun b => b < w.heap.size) 4 encGa s.Ag s.gates, sl (fun b => b < w.heap.size) 1 enInt s.As s.staff, sl (fun b => b < w.heap.size) 1 enInt Am (roomsV s.s l l.length)]) (fun i => k - i) 0 (by omega) ⟨rfl, rfl, rfl, rfl, rfl, rfl, rfl, trivial⟩ ?_
          rintro i hi
          dsimp only [List.cons_append, List.nil_append]
          refine cj_seq (cj_seq ?_)
          refine cj_regionG (gj_step (y_move rfl) rfl rfl rfl (gj_step (y_move rfl) rfl rfl rfl (gj_step (y_lss rfl rfl) rfl rfl rfl (gj_nil ?_))))
          refine ej_th ?_
          refine cj_cond rfl (fun h85 => ?_) (fun h85 => ?_)
          · have h85b := h85
            try simp only [sxb] at h85
            obtain ⟨y, hy⟩ : ∃ y, (playB s.s l)[i]? = some y := ⟨_, List.getElem?_eq_getElem (by omega)⟩
            refine cj_skip (ej_th (cj_seq (cj_block (cj_seq ?_))))
            refine cj_draw (by kernel_rfl) (by kernel_rfl) (gj_step (y_move rfl) rfl rfl rfl (gj_step (y_ixArr Try.underlying48 Try.sizeOf47 rfl rfl (by omega)) rfl rfl rfl (gj_step (y_fa0 fa47_0 rfl) rfl rfl rfl (gj_step (y_load1 Try.isAgg3 rfl (show (((playB s.s l).flatMap encBa))[0 + i * 5]? = _ from bf_cell hy (j := 0) (by omega))) rfl rfl rfl (gj_step (y_neq rfl rfl) rfl rfl rfl (gj_step (y_move rfl) rfl rfl rfl (gj_g 7 93 100 rfl rfl rfl rfl (fun hg93 => gj_yes rfl rfl rfl (y_move rfl) rfl rfl (gj_yes rfl rfl rfl (y_ixArr Try.underlying48 Try.sizeOf47 rfl rfl (by omega)) rfl rfl (gj_yes rfl rfl rfl (y_fa fa47_1 rfl) rfl rfl (gj_yes rfl rfl rfl (y_load1 Try.isAgg3 rfl (show (((playB s.s l).flatMap encBa))[0 + i * 5 + 1]? = _ from bf_cell hy (j := 1) (by omega))) rfl rfl (gj_yes rfl rfl rfl (y_fa fa47_1 rfl) rfl rfl (gj_yes rfl rfl rfl (y_load1 Try.isAgg3 rfl rfl) rfl rfl (gj_yes rfl rfl rfl (y_eql rfl rfl) rfl rfl (gj_nil rfl)))))))) (gj_step (y_and rfl rfl rfl) rfl rfl rfl (gj_nil ?_)))))))))
            refine ej_th ?_
            refine cj_cond rfl (fun h101 => ?_) (fun h101 => ?_)
            · have e9 := hh7 i y (by omega) hy
              simp at h101
              exact absurd h101.2 (e9 h101.1)
            · have h101b := h101
              try simp only [sxb] at h101
              refine cj_skip (ej_blk (ej_th ?_))
              refine cj_regionG (gj_step (y_move rfl) rfl rfl rfl (gj_step (y_add rfl rfl (by omega)) rfl rfl rfl (gj_step (y_assign rfl) rfl rfl rfl (gj_nil ?_))))
              exact ej_nx (i + 1) (by omega) (by omega) ⟨rfl, rfl, rfl, rfl, rfl, rfl, rfl, trivial⟩
          · have h85b := h85
            try simp only [sxb] at h85
            refine cj_exit (ej_then_exit (ej_then_exit (ej_blk_hit (ej_blk (ej_th ?_)))))
            refine cj_regionG (gj_step (y_move rfl) rfl rfl rfl (gj_step (y_add rfl rfl (by omega)) rfl rfl rfl (gj_step (y_assign rfl) rfl rfl rfl (gj_nil ?_))))
            exact ej_nx (k + 1) (by omega) (by omega) ⟨rfl, rfl, rfl, rfl, rfl, trivial⟩
  · have h13b := h13
    try simp only [sxb] at h13
    refine cj_exit (ej_then_exit (ej_then_exit (ej_blk_hit (ej_th (cj_seq ?_)))))
    refine cj_regionG (gj_step (y_assign rfl) rfl rfl rfl (gj_nil ?_))
    refine ej_th (cj_ret ?_)
    exact ej_ret1 rfl Try.results32 rfl (fun w' hp => ⟨by simp, hp.below⟩)

end Go.Proofs.Ytomidcehahdmbaa
namespace Go.Proofs.Ytomidcehahdmbaa
open Go.Sx Go.RowKit
set_option maxRecDepth 20000

end Go.Proofs.Ytomidcehahdmbaa
namespace Go.Proofs.Ytomidcehahdmbaa
open Go.Sx Go.RowKit Vm
set_option maxRecDepth 20000
set_option maxHeartbeats 3200000 in
theorem k_VaultPlaces (s : StrV) (l : List CarryV) (A : Option Addr) (cc : Nat) (w : World) (hs : StrRd w s) (hl : Rd w 8 encCa A l) (hcap : l.length ≤ cc) : Calls Try.prog 7 #[.agg #[.slice s.Ar s.rooms.length s.cr, .slice s.Ag s.gates.length s.cg, .slice s.As s.staff.length s.cs], .slice A l.length cc] w (fun e w' => e = .returned (.bool true) ∧ Grow w w') := by
  have hll := hl.len
  have hpl := playB_len (s := s.s) l
  refine enter_pure (args := [.agg #[.slice s.Ar s.rooms.length s.cr, .slice s.Ag s.gates.length s.cg, .slice s.As s.staff.length s.cs], .slice A l.length cc]) [sl (fun b => b < w.heap.size) 3 encRo s.Ar s.rooms, sl (fun b => b < w.heap.size) 4 encGa s.Ag s.gates, sl (fun b => b < w.heap.size) 1 enInt s.As s.staff, sl (fun b => b < w.heap.size) 8 encCa A l] Try.func7 rfl (by rw [Try.ntmps7]; simp) (fun g hg => by simp at hg; rcases hg with rfl | rfl | rfl | rfl; exact ⟨hs.rooms, fun _ h => h⟩; exact ⟨hs.gates, fun _ h => h⟩; exact ⟨hs.staff, fun _ h => h⟩; exact ⟨hl, fun _ h => h⟩) ?_
  refine cj_seq (cj_region ?_)
  refine oj_box rfl rfl rfl (fun b2 => ?_)
  refine oj_step (y_assign rfl) rfl rfl rfl ?_
  refine oj_nil ?_
  refine ej_th (cj_seq (cj_region ?_))
  refine oj_step (y_loadN Try.isAgg26 Try.sizeOf26 rfl) rfl rfl rfl ?_
  refine oj_step (y_move rfl) rfl rfl rfl ?_
  refine oj_step (y_call Try.call30 rfl (fun w hp => k_Play s l A cc w (hs.mono hp.below) hp.rd)) rfl rfl rfl ?_
  refine oj_step (y_move rfl) rfl rfl rfl ?_
  refine oj_step (y_extract rfl rfl) rfl rfl rfl ?_
  refine oj_step (y_extract rfl rfl) rfl rfl rfl ?_
  refine oj_step (y_extract rfl rfl) rfl rfl rfl ?_
  refine oj_alloc Try.zeroValue48 rfl rfl (fun b5 => ?_)
  refine oj_store (vs := ((playB s.s l).flatMap encBa)) (n := 160) (hset := set_all _ _ (by rw [bf_len hpl]; rfl)) rfl rfl rfl (bf_one _) Try.sizeOf48 (bf_len hpl) ?_
  refine oj_step (y_assign rfl) rfl rfl rfl ?_
  refine oj_step (y_assign rfl) rfl rfl rfl ?_
  refine oj_nil ?_
  refine ej_th (cj_seq (cj_seq ?_))
  refine cj_regionG (gj_step (y_move rfl) rfl rfl rfl (gj_step (y_neq rfl rfl) rfl rfl rfl (gj_nil ?_)))
  refine ej_th ?_
  refine cj_cond rfl (fun h25 => ?_) (fun h25 => ?_)
  · have h25b := h25
    try simp only [sxb] at h25
    have hB : playB s.s l = bags0 := by unfold playB; rw [if_neg h25]
    have hat := play_at_le s.s l h25
    have hbt : btw 0 (playAt s.s l : Int) (max 0 ((l.length : Int) - 1)) = true := btw_t.2 (by omega)
    refine cj_seq ?_
    refine cj_regionG ?_
    refine gj_step (y_loadN (hv := tk_all _ (bf_len hpl)) Try.isAgg48 Try.sizeOf48 rfl) rfl rfl rfl (gj_step (y_buildA0 (cs := ((bags0).flatMap encBa)) Try.underlying48 Try.sizeOf47 Try.zeroValue48 rfl) rfl rfl rfl (gj_step (y_bin rfl rfl (fun x y w => eq_bags hpl rfl x y w)) rfl rfl rfl (gj_step (y_move rfl) rfl rfl rfl (?_))))
    refine gj_g 6 29 35 rfl rfl rfl rfl (fun hg29 => gj_yes rfl rfl rfl (y_move rfl) rfl rfl (gj_yes rfl rfl rfl (y_move rfl) rfl rfl (gj_yes rfl rfl rfl (y_lenA Try.underlying45 rfl) rfl rfl (gj_yes rfl rfl rfl (y_sub rfl rfl (by omega)) rfl rfl (gj_yes rfl rfl rfl (y_max rfl rfl) rfl rfl (gj_yes rfl rfl rfl (y_call Try.call27 rfl (fun w hp => k_From _ _ _ w)) rfl rfl (gj_nil rfl))))))) ?_
    refine gj_step (y_and rfl rfl rfl) rfl rfl rfl (gj_step (y_move rfl) rfl rfl rfl (?_))
    refine gj_g 1 37 38 rfl rfl rfl rfl (fun hg37 => gj_yes rfl rfl rfl (y_call Try.call19 rfl (fun w hp => k_works w)) rfl rfl (gj_nil rfl)) ?_
    refine gj_step (y_and rfl rfl rfl) rfl rfl rfl (gj_step (y_assign rfl) rfl rfl rfl (?_))
    refine gj_nil ?_
    refine ej_th (cj_ret (ej_then_ret ?_))
    exact ej_ret1 rfl Try.results7 rfl (fun w' hp => ⟨by simp [hB, hbt], hp.below⟩)
  · have h25b := h25
    try simp only [sxb] at h25
    have h0 : playE s.s l = 0 := by simpa using h25
    obtain ⟨hb, hlb, hl64⟩ := play_0 h0
    rw [(play_run h0).2.2]
    refine cj_skip (ej_th (cj_seq (cj_seq ?_)))
    refine cj_regionG (gj_step (y_move rfl) rfl rfl rfl (gj_step (y_move rfl) rfl rfl rfl (gj_step (y_lenA Try.underlying45 rfl) rfl rfl rfl (gj_step (y_neq rfl rfl) rfl rfl rfl (gj_nil ?_)))))
    refine ej_th ?_
    refine cj_cond rfl (fun h43 => ?_) (fun h43 => ?_)
    · simp at h43
    · have h43b := h43
      try simp only [sxb] at h43
      refine cj_skip (ej_th (cj_seq (cj_region ?_)))
      refine oj_makeSlice1 (n := 32) Try.underlying24 Try.type3 rfl rfl rfl rfl rfl (by decide) (by decide) rfl (fun b44 => ?_)
      refine oj_litOw (b := b44) (e := 3) (c := 32) (sz := 1) (enc := enInt) (List.replicate 32 (0 : Int)) rfl rfl rfl (by unfold maxLen; decide) ?_
      refine oj_step (y_assign rfl) rfl rfl rfl ?_
      refine oj_nil ?_
      refine ej_th (cj_seq (cj_seq ?_))
      refine cj_regionG (gj_step (y_assign rfl) rfl rfl rfl (gj_nil ?_))
      refine ej_th (cj_block ?_)
      rw [← rooms_0 s.s l]
      refine cj_lpi (X := Nat) [(1, _), (2, _), (5, _), (8, _)] (fun i => i ≤ l.length) (fun i => [(9, .int .i64 (i : Nat))]) (fun i => [ow 3 1 enInt (some ⟨b44, 0, none⟩) 32 (roomsV s.s l i), ownB b5 (cellsB 48 ((playB s.s l).flatMap encBa)), ownB b2 (cellsB 26 [.slice s.Ar s.rooms.length s.cr, .slice s.Ag s.gates.length s.cg, .slice s.As s.staff.length s.cs])]) (fun i => [sl (fun b => b < w.heap.size) 3 encRo s.Ar s.rooms, sl (fun b => b < w.heap.size) 4 encGa s.Ag s.gates, sl (fun b => b < w.heap.size) 1 enInt s.As s.staff, sl (fun b => b < w.heap.size) 8 encCa A l]) (fun i => l.length - i) 0 (by omega) ⟨rfl, rfl, rfl, rfl, rfl, trivial⟩ ?_
      rintro i hi
      dsimp only [List.cons_append, List.nil_append]
      refine cj_seq (cj_seq ?_)
      refine cj_regionG (gj_step (y_move rfl) rfl rfl rfl (gj_step (y_move rfl) rfl rfl rfl (gj_step (y_lenA Try.underlying45 rfl) rfl rfl rfl (gj_step (y_lss rfl rfl) rfl rfl rfl (gj_nil ?_)))))
      refine ej_th ?_
      refine cj_cond rfl (fun h48 => ?_) (fun h48 => ?_)
      · have h48b := h48
        try simp only [sxb] at h48
        obtain ⟨c, hck⟩ : ∃ c, l[i]? = some c := ⟨_, List.getElem?_eq_getElem (by omega)⟩
        have hco := log_ok hlb c (List.mem_of_getElem? hck)
        have hcb := hco.bag
        obtain ⟨hy1, hy2, hw1, hw2⟩ := bit_rng hco hb
        have e1 := btw_t.2 hcb
        have e2 : btw 0 c.by_ 5 = true := btw_t.2 ⟨hy1, hy2⟩
        have e3 : btw 0 c.with_ 5 = true := btw_t.2 ⟨hw1, hw2⟩
        have hp1 : 2 ^ c.by_.toNat ≤ 1152921504606846976 := pow_bd (n := 6) (by omega) (by omega)
        have hp2 : 2 ^ c.with_.toNat ≤ 1152921504606846976 := pow_bd (n := 6) (by omega) (by omega)
        have hgl := grp_lt hco
        have hq1 : askE s ((2 ^ c.by_.toNat ||| 2 ^ c.with_.toNat : Nat) : Int) = 0 := by
          have h9 : 2 ^ c.by_.toNat ||| 2 ^ c.with_.toNat < 2 ^ s.staff.length := hgl
          rw [askE, if_pos hb, if_pos (btw_t.2 (by omega))]
        have hq2 : EntV s ((2 ^ c.by_.toNat ||| 2 ^ c.with_.toNat : Nat) : Int) = (reachC s.s c : Nat) := by rw [EntV, if_pos hq1]; rfl
        have hrf := room_bd (s := s.s) (l := l) (k := i) c.bag hcb
        have hrt := room_bd (s := s.s) (l := l) (k := i + 1) c.bag hcb
        obtain ⟨hr1, hr2⟩ := rooms_reach h0 hck
        obtain ⟨hst1, hst2, hst3⟩ := rooms_step h0 hck
        have hrml := rooms_len s.s l i
        have hnx : i + 1 < l.length → l[i + 1]? = some (l.getD (i + 1) c) := fun h => by rw [List.getD_eq_getElem?_getD, List.getElem?_eq_getElem h]; rfl
        refine cj_skip (ej_th (cj_seq (cj_block (cj_seq (cj_region ?_)))))
        refine oj_step (y_move rfl) rfl rfl rfl ?_
        refine oj_step (y_move rfl) rfl rfl rfl ?_
        refine oj_step (y_ixR (reads_sl) Try.underlying45 Try.sizeOf52 rfl rfl (⟨by omega, by omega⟩)) rfl rfl rfl ?_
        refine oj_step (y_ldW (reads_sl) Try.isAgg52 Try.sizeOf52 rfl (hck) (fun _ => rfl)) rfl rfl rfl ?_
        refine oj_alloc Try.zeroValue52 rfl rfl (fun b10 => ?_)
        refine oj_store rfl rfl rfl rfl Try.sizeOf52 rfl ?_
        refine oj_nil ?_
        refine ej_th (cj_seq (cj_seq ?_))
        refine cj_regionG ?_
        refine gj_step (y_fa fa52_2 rfl) rfl rfl rfl (gj_step (y_load1 Try.isAgg3 rfl rfl) rfl rfl rfl (?_))
        refine gj_step (y_call Try.call27 rfl (fun w hp => k_From _ _ _ w)) rfl rfl rfl ?_
        refine gj_step (y_not rfl) rfl rfl rfl (gj_step (y_move rfl) rfl rfl rfl (?_))
        refine gj_g 5 59 64 rfl rfl rfl rfl (fun hg59 => gj_yes rfl rfl rfl (y_fa fa52_4 rfl) rfl rfl (gj_yes rfl rfl rfl (y_load1 Try.isAgg3 rfl rfl) rfl rfl (gj_yes rfl rfl rfl (y_fa fa52_5 rfl) rfl rfl (gj_yes rfl rfl rfl (y_load1 Try.isAgg3 rfl rfl) rfl rfl (gj_yes rfl rfl rfl (y_eql rfl rfl) rfl rfl (gj_nil rfl)))))) ?_
        refine gj_step (y_or rfl rfl rfl) rfl rfl rfl (gj_step (y_move rfl) rfl rfl rfl (?_))
        refine gj_g 4 66 70 rfl rfl rfl rfl (fun hg66 => gj_yes rfl rfl rfl (y_fa fa52_4 rfl) rfl rfl (gj_yes rfl rfl rfl (y_load1 Try.isAgg3 rfl rfl) rfl rfl (gj_yes rfl rfl rfl (y_call Try.call27 rfl (fun w hp => k_From _ _ _ w)) rfl rfl (gj_yes rfl rfl rfl (y_not rfl) rfl rfl (gj_nil rfl))))) ?_
        refine gj_step (y_or rfl rfl rfl) rfl rfl rfl (gj_step (y_move rfl) rfl rfl rfl (?_))
        refine gj_g 4 72 76 rfl rfl rfl rfl (fun hg72 => gj_yes rfl rfl rfl (y_fa fa52_5 rfl) rfl rfl (gj_yes rfl rfl rfl (y_load1 Try.isAgg3 rfl rfl) rfl rfl (gj_yes rfl rfl rfl (y_call Try.call27 rfl (fun w hp => k_From _ _ _ w)) rfl rfl (gj_yes rfl rfl rfl (y_not rfl) rfl rfl (gj_nil rfl))))) ?_
        refine gj_step (y_or rfl rfl rfl) rfl rfl rfl (?_)
        refine gj_nil ?_
        refine ej_th ?_
        refine cj_cond rfl (fun h77 => ?_) (fun h77 => ?_)
        · simp [e1, e2, e3, hco.ne] at h77
        · have h77b := h77
          try simp only [sxb] at h77
          refine cj_skip (ej_th (cj_seq ?_))
          refine cj_draw (by kernel_rfl) (by kernel_rfl) ?_
          refine gj_step (y_loadN Try.isAgg26 Try.sizeOf26 rfl) rfl rfl rfl (gj_step (y_fa fa52_4 rfl) rfl rfl rfl (gj_step (y_load1 Try.isAgg3 rfl rfl) rfl rfl rfl (gj_step (y_shl1I rfl rfl (by omega) (by omega)) rfl rfl rfl (gj_step (y_fa fa52_5 rfl) rfl rfl rfl (gj_step (y_load1 Try.isAgg3 rfl rfl) rfl rfl rfl (gj_step (y_shl1I rfl rfl (by omega) (by omega)) rfl rfl rfl (gj_step (y_orN rfl rfl (by omega) (by omega)) rfl rfl rfl (?_))))))))
          refine gj_step (y_call Try.call13 rfl (fun w hp => k_Enter s ((2 ^ c.by_.toNat ||| 2 ^ c.with_.toNat : Nat) : Int) w (hs.mono hp.below))) rfl rfl rfl ?_
          refine gj_step (y_move rfl) rfl rfl rfl (gj_step (y_extract rfl rfl) rfl rfl rfl (gj_step (y_extract rfl rfl) rfl rfl rfl (gj_step (y_assign rfl) rfl rfl rfl (gj_step (y_assign rfl) rfl rfl rfl (?_)))))
          refine gj_nil ?_
          refine ej_th (cj_seq ?_)
          rw [hq1, hq2]
          refine cj_regionG (gj_step (y_move rfl) rfl rfl rfl (gj_step (y_fa fa52_2 rfl) rfl rfl rfl (gj_step (y_load1 Try.isAgg3 rfl rfl) rfl rfl rfl (gj_step (y_ixRm (m := 32) (xs := roomsV s.s l i) (by rw [rooms_len]) (reads_owI) Try.underlying24 Try.sizeOf3 rfl rfl (⟨by omega, by omega⟩)) rfl rfl rfl (gj_step (y_ld0 (reads_owI) Try.isAgg3 rfl (rooms_at hcb) rfl) rfl rfl rfl (gj_step (y_assign rfl) rfl rfl rfl (gj_nil ?_)))))))
          refine ej_th ?_
          refine cj_cuti (X := Unit) [(9, _), (1, _), (2, _), (5, _), (8, _), (10, _), (11, _), (12, _), (13, _)] ⟨rfl, rfl, rfl, rfl, rfl, rfl, rfl, rfl, rfl, trivial⟩ (fun _ => True) (fun _ => []) (fun _ => [ownB b10 (cellsB 52 (encCa c)), ow 3 1 enInt (some ⟨b44, 0, none⟩) 32 (roomsV s.s l (i + 1)), ownB b5 (cellsB 48 ((playB s.s l).flatMap encBa)), ownB b2 (cellsB 26 [.slice s.Ar s.rooms.length s.cr, .slice s.Ag s.gates.length s.cg, .slice s.As s.staff.length s.cs])]) (fun _ => [sl (fun b => b < w.heap.size) 3 encRo s.Ar s.rooms, sl (fun b => b < w.heap.size) 4 encGa s.Ag s.gates, sl (fun b => b < w.heap.size) 1 enInt s.As s.staff, sl (fun b => b < w.heap.size) 8 encCa A l]) ?_ ?_
          · refine cj_seq ?_
            refine cj_regionG (gj_step (y_fa fa52_1 rfl) rfl rfl rfl (gj_step (y_load1 Try.isAgg3 rfl rfl) rfl rfl rfl (gj_nil ?_)))
            refine ej_th (cj_block ?_)
            refine cj_cutic (X := Bool) [(9, _), (1, _), (2, _), (5, _), (8, _), (10, _), (11, _), (12, _), (13, _), (96, _)] ⟨rfl, rfl, rfl, rfl, rfl, rfl, rfl, rfl, rfl, rfl, trivial⟩ (fun x => x = decide (c.kind = 1 ∨ c.kind = 2)) (fun x => [(97, .bool x)]) ?_ ?_
            · refine cj_seq ?_
              refine cj_regionG (gj_step (y_eql rfl rfl) rfl rfl rfl (gj_step (y_assign rfl) rfl rfl rfl (gj_nil ?_)))
              refine ej_th ?_
              refine cj_cond rfl (fun h97 => ?_) (fun h97 => ?_)
              · have h97b := h97
                try simp only [sxb] at h97
                refine cj_skip ?_
                exact ej_ct (c.kind == 1) (by rw [Bool.eq_iff_iff, beq_iff_eq, decide_eq_true_iff]; omega) ⟨rfl, rfl, rfl, rfl, rfl, rfl, rfl, rfl, rfl, rfl, rfl, trivial⟩
              · have h97b := h97
                try simp only [sxb] at h97
                refine cj_regionG (gj_step (y_eql rfl rfl) rfl rfl rfl (gj_step (y_assign rfl) rfl rfl rfl (gj_nil ?_)))
                exact ej_ct (c.kind == 2) (by rw [Bool.eq_iff_iff, beq_iff_eq, decide_eq_true_iff]; omega) ⟨rfl, rfl, rfl, rfl, rfl, rfl, rfl, rfl, rfl, rfl, rfl, trivial⟩
            · rintro x hx97
              dsimp only [List.cons_append, List.nil_append]
              refine cj_cond rfl (fun h97 => ?_) (fun h97 => ?_)
              · have h97b := h97
                try simp only [sxb] at h97
                refine cj_region ?_
                refine oj_step (y_move rfl) rfl rfl rfl ?_
                refine oj_step (y_fa fa52_2 rfl) rfl rfl rfl ?_
                refine oj_step (y_load1 Try.isAgg3 rfl rfl) rfl rfl rfl ?_
                refine oj_step (y_fa fa52_3 rfl) rfl rfl rfl ?_
                refine oj_step (y_load1 Try.isAgg3 rfl rfl) rfl rfl rfl ?_
                refine oj_step (y_ixRm (m := 32) (xs := roomsV s.s l i) (by rw [rooms_len]) (reads_owI) Try.underlying24 Try.sizeOf3 rfl rfl (⟨by omega, by omega⟩)) rfl rfl rfl ?_
                refine oj_storeE (i := c.bag.toNat) (u := c.to_) rfl rfl rfl rfl Try.sizeOf3 (fun _ => rfl) (by first | omega | (simp only [List.length_set]; omega) | (simp; omega)) ?_
                refine oj_nil ?_
                refine ej_blk ?_
                refine ej_takes [ownB b10 (cellsB 52 (encCa c)), ow 3 1 enInt (some ⟨b44, 0, none⟩) 32 ((roomsV s.s l i).set c.bag.toNat c.to_), ownB b5 (cellsB 48 ((playB s.s l).flatMap encBa)), ownB b2 (cellsB 26 [.slice s.Ar s.rooms.length s.cr, .slice s.Ag s.gates.length s.cg, .slice s.As s.staff.length s.cs])] ?_
                rw [hx97, decide_eq_true_iff] at h97
                rw [← hst1 h97]
                exact ej_ct () trivial ⟨rfl, rfl, rfl, rfl, rfl, rfl, rfl, rfl, rfl, trivial⟩
              · have h97b := h97
                try simp only [sxb] at h97
                refine cj_seq ?_
                refine cj_regionG (gj_step (y_eql rfl rfl) rfl rfl rfl (gj_step (y_assign rfl) rfl rfl rfl (gj_nil ?_)))
                refine ej_th ?_
                refine cj_cond rfl (fun h106 => ?_) (fun h106 => ?_)
                · have h106b := h106
                  try simp only [sxb] at h106
                  refine cj_region ?_
                  refine oj_step (y_move rfl) rfl rfl rfl ?_
                  refine oj_step (y_fa fa52_2 rfl) rfl rfl rfl ?_
                  refine oj_step (y_load1 Try.isAgg3 rfl rfl) rfl rfl rfl ?_
                  refine oj_step (y_ixRm (m := 32) (xs := roomsV s.s l i) (by rw [rooms_len]) (reads_owI) Try.underlying24 Try.sizeOf3 rfl rfl (⟨by omega, by omega⟩)) rfl rfl rfl ?_
                  refine oj_storeE (i := c.bag.toNat) (u := 0) rfl rfl rfl rfl Try.sizeOf3 (fun _ => rfl) (by first | omega | (simp only [List.length_set]; omega) | (simp; omega)) ?_
                  refine oj_nil ?_
                  refine ej_blk ?_
                  refine ej_takes [ownB b10 (cellsB 52 (encCa c)), ow 3 1 enInt (some ⟨b44, 0, none⟩) 32 ((roomsV s.s l i).set c.bag.toNat 0), ownB b5 (cellsB 48 ((playB s.s l).flatMap encBa)), ownB b2 (cellsB 26 [.slice s.Ar s.rooms.length s.cr, .slice s.Ag s.gates.length s.cg, .slice s.As s.staff.length s.cs])] ?_
                  rw [← hst2 (by simpa using h106)]
                  exact ej_ct () trivial ⟨rfl, rfl, rfl, rfl, rfl, rfl, rfl, rfl, rfl, trivial⟩
                · have h106b := h106
                  try simp only [sxb] at h106
                  refine cj_skip (ej_blk ?_)
                  refine ej_takes [ownB b10 (cellsB 52 (encCa c)), ow 3 1 enInt (some ⟨b44, 0, none⟩) 32 (roomsV s.s l i), ownB b5 (cellsB 48 ((playB s.s l).flatMap encBa)), ownB b2 (cellsB 26 [.slice s.Ar s.rooms.length s.cr, .slice s.Ag s.gates.length s.cg, .slice s.As s.staff.length s.cs])] ?_
                  rw [hx97] at h97
                  simp at h97
                  rw [← hst3 (by have h9 := hco.kind; have h8 : ¬ c.kind = 5 := (by simpa using h106); omega)]
                  exact ej_ct () trivial ⟨rfl, rfl, rfl, rfl, rfl, rfl, rfl, rfl, rfl, trivial⟩
          · rintro _ -
            dsimp only [List.cons_append, List.nil_append]
            refine cj_seq (cj_seq ?_)
            refine cj_regionG ?_
            refine gj_step (y_move rfl) rfl rfl rfl (gj_step (y_neq rfl rfl) rfl rfl rfl (gj_step (y_move rfl) rfl rfl rfl (?_)))
            refine gj_g 3 114 117 rfl rfl rfl rfl (fun hg114 => gj_yes rfl rfl rfl (y_move rfl) rfl rfl (gj_yes rfl rfl rfl (y_call Try.call27 rfl (fun w hp => k_From _ _ _ w)) rfl rfl (gj_yes rfl rfl rfl (y_not rfl) rfl rfl (gj_nil rfl)))) ?_
            refine gj_step (y_or rfl rfl rfl) rfl rfl rfl (gj_step (y_move rfl) rfl rfl rfl (?_))
            refine gj_g 4 119 123 rfl rfl rfl rfl (fun hg119 => gj_yes rfl rfl rfl (y_move rfl) rfl rfl (gj_yes rfl rfl rfl (y_move rfl) rfl rfl (gj_yes rfl rfl rfl (y_call Try.call29 rfl (fun w hp => k_BitI (reachC s.s c) (roomK s.s l c.bag i) w (by omega))) rfl rfl (gj_yes rfl rfl rfl (y_not rfl) rfl rfl (gj_nil rfl))))) ?_
            refine gj_step (y_or rfl rfl rfl) rfl rfl rfl (gj_step (y_move rfl) rfl rfl rfl (?_))
            refine gj_g 7 125 132 rfl rfl rfl rfl (fun hg125 => gj_yes rfl rfl rfl (y_move rfl) rfl rfl (gj_yes rfl rfl rfl (y_fa fa52_2 rfl) rfl rfl (gj_yes rfl rfl rfl (y_load1 Try.isAgg3 rfl rfl) rfl rfl (gj_yes rfl rfl rfl (y_ixRm (m := 32) (xs := roomsV s.s l (i + 1)) (by rw [rooms_len]) (reads_owI) Try.underlying24 Try.sizeOf3 rfl rfl (⟨by omega, by omega⟩)) rfl rfl (gj_yes rfl rfl rfl (y_ld0 (reads_owI) Try.isAgg3 rfl (rooms_at hcb) rfl) rfl rfl (gj_yes rfl rfl rfl (y_call Try.call27 rfl (fun w hp => k_From _ _ _ w)) rfl rfl (gj_yes rfl rfl rfl (y_not rfl) rfl rfl (gj_nil rfl)))))))) ?_
            refine gj_step (y_or rfl rfl rfl) rfl rfl rfl (gj_step (y_move rfl) rfl rfl rfl (?_))
            refine gj_g 8 134 142 rfl rfl rfl rfl (fun hg134 => gj_yes rfl rfl rfl (y_move rfl) rfl rfl (gj_yes rfl rfl rfl (y_move rfl) rfl rfl (gj_yes rfl rfl rfl (y_fa fa52_2 rfl) rfl rfl (gj_yes rfl rfl rfl (y_load1 Try.isAgg3 rfl rfl) rfl rfl (gj_yes rfl rfl rfl (y_ixRm (m := 32) (xs := roomsV s.s l (i + 1)) (by rw [rooms_len]) (reads_owI) Try.underlying24 Try.sizeOf3 rfl rfl (⟨by omega, by omega⟩)) rfl rfl (gj_yes rfl rfl rfl (y_ld0 (reads_owI) Try.isAgg3 rfl (rooms_at hcb) rfl) rfl rfl (gj_yes rfl rfl rfl (y_call Try.call29 rfl (fun w hp => k_BitI (reachC s.s c) (roomK s.s l c.bag (i + 1)) w (by omega))) rfl rfl (gj_yes rfl rfl rfl (y_not rfl) rfl rfl (gj_nil rfl))))))))) ?_
            refine gj_step (y_or rfl rfl rfl) rfl rfl rfl (?_)
            refine gj_nil ?_
            refine ej_th ?_
            refine cj_cond rfl (fun h143 => ?_) (fun h143 => ?_)
            · have f1 := btw_t.2 hrf
              have f2 := btw_t.2 hrt
              simp [f1, f2, hr1, hr2] at h143
            · have h143b := h143
              try simp only [sxb] at h143
              refine cj_skip (ej_th (cj_seq ?_))
              refine cj_draw (by kernel_rfl) (by kernel_rfl) (gj_step (y_move rfl) rfl rfl rfl (gj_step (y_add rfl rfl (by omega)) rfl rfl rfl (gj_step (y_move rfl) rfl rfl rfl (gj_step (y_lenA Try.underlying45 rfl) rfl rfl rfl (gj_step (y_eql rfl rfl) rfl rfl rfl (gj_step (y_move rfl) rfl rfl rfl (gj_g 9 149 158 rfl rfl rfl rfl (fun hg149 => gj_yes rfl rfl rfl (y_move rfl) rfl rfl (gj_yes rfl rfl rfl (y_move rfl) rfl rfl (gj_yes rfl rfl rfl (y_add rfl rfl (by omega)) rfl rfl (gj_yes rfl rfl rfl (y_ixR (reads_sl) Try.underlying45 Try.sizeOf52 rfl rfl (⟨by omega, by have h9 := hg149; simp at h9; omega⟩)) rfl rfl (gj_yes rfl rfl rfl (y_faE fa52_0 rfl) rfl rfl (gj_yes rfl rfl rfl (y_ld1 (reads_sl) Try.isAgg3 rfl (hnx (by have h9 := hg149; simp at h9; omega)) rfl) rfl rfl (gj_yes rfl rfl rfl (y_fa0 fa52_0 rfl) rfl rfl (gj_yes rfl rfl rfl (y_load1 Try.isAgg3 rfl rfl) rfl rfl (gj_yes rfl rfl rfl (y_gtr rfl rfl) rfl rfl (gj_nil rfl)))))))))) (gj_step (y_or rfl rfl rfl) rfl rfl rfl (gj_nil ?_)))))))))
              refine ej_th ?_
              refine cj_cond rfl (fun h159 => ?_) (fun h159 => ?_)
              · have h159b := h159
                try simp only [sxb] at h159
                have hn : i + 1 = l.length ∨ ∃ d, l[i + 1]? = some d ∧ c.day < d.day := by
                  by_cases h9 : i + 1 = l.length
                  · exact .inl h9
                  · refine .inr ⟨_, hnx (by omega), ?_⟩
                    have h8 : ¬ ((i : Int) + 1 = l.length) := by omega
                    simpa [h8] using h159
                refine cj_seq ?_
                refine cj_regionG (gj_step (y_assign rfl) rfl rfl rfl (gj_nil ?_))
                refine ej_th (cj_block ?_)
                refine cj_lpi (X := Nat) [(9, _), (1, _), (2, _), (5, _), (8, _), (10, _)] (fun j => j ≤ 32) (fun j => [(14, .int .i64 (j : Nat))]) (fun j => [ownB b10 (cellsB 52 (encCa c)), ow 3 1 enInt (some ⟨b44, 0, none⟩) 32 (roomsV s.s l (i + 1)), ownB b5 (cellsB 48 ((playB s.s l).flatMap encBa)), ownB b2 (cellsB 26 [.slice s.Ar s.rooms.length s.cr, .slice s.Ag s.gates.length s.cg, .slice s.As s.staff.length s.cs])]) (fun j => [sl (fun b => b < w.heap.size) 3 encRo s.Ar s.rooms, sl (fun b => b < w.heap.size) 4 encGa s.Ag s.gates, sl (fun b => b < w.heap.size) 1 enInt s.As s.staff, sl (fun b => b < w.heap.size) 8 encCa A l]) (fun j => 32 - j) 0 (by omega) ⟨rfl, rfl, rfl, rfl, rfl, rfl, rfl, trivial⟩ ?_
                rintro j hj
                dsimp only [List.cons_append, List.nil_append]
                refine cj_seq (cj_seq ?_)
                refine cj_regionG (gj_step (y_move rfl) rfl rfl rfl (gj_step (y_lss rfl rfl) rfl rfl rfl (gj_nil ?_)))
                refine ej_th ?_
                refine cj_cond rfl (fun h161 => ?_) (fun h161 => ?_)
                · have h161b := h161
                  try simp only [sxb] at h161
                  refine cj_skip (ej_th (cj_seq (cj_block (cj_seq ?_))))
                  refine cj_regionG ?_
                  refine gj_step (y_loadN Try.isAgg26 Try.sizeOf26 rfl) rfl rfl rfl (gj_step (y_move rfl) rfl rfl rfl (gj_step (y_move rfl) rfl rfl rfl (gj_step (y_fa0 fa52_0 rfl) rfl rfl rfl (gj_step (y_load1 Try.isAgg3 rfl rfl) rfl rfl rfl (?_)))))
                  refine gj_step (y_call Try.call31 rfl (fun w hp => k_Where s l A cc (j : Nat) c.day w (hs.mono hp.below) hp.rd hcap)) rfl rfl rfl ?_
                  refine gj_step (y_move rfl) rfl rfl rfl (gj_step (y_extract rfl rfl) rfl rfl rfl (gj_step (y_extract rfl rfl) rfl rfl rfl (gj_step (y_assign rfl) rfl rfl rfl (gj_step (y_assign rfl) rfl rfl rfl (?_)))))
                  refine gj_nil ?_
                  refine ej_th (cj_seq ?_)
                  obtain ⟨hw1', hw2'⟩ := where_at h0 hck hn (n := ((j : Nat) : Int)) (by omega)
                  rw [hw1', hw2']
                  refine cj_regionG (gj_step (y_move rfl) rfl rfl rfl (gj_step (y_neq rfl rfl) rfl rfl rfl (gj_step (y_move rfl) rfl rfl rfl (gj_g 6 175 181 rfl rfl rfl rfl (fun hg175 => gj_yes rfl rfl rfl (y_move rfl) rfl rfl (gj_yes rfl rfl rfl (y_move rfl) rfl rfl (gj_yes rfl rfl rfl (y_move rfl) rfl rfl (gj_yes rfl rfl rfl (y_ixRm (m := 32) (xs := roomsV s.s l (i + 1)) (by rw [rooms_len]) (reads_owI) Try.underlying24 Try.sizeOf3 rfl rfl (⟨by omega, by omega⟩)) rfl rfl (gj_yes rfl rfl rfl (y_ld0 (reads_owI) Try.isAgg3 rfl (rooms_at (n := (j : Int)) (by omega)) rfl) rfl rfl (gj_yes rfl rfl rfl (y_neq rfl rfl) rfl rfl (gj_nil rfl))))))) (gj_step (y_or rfl rfl rfl) rfl rfl rfl (gj_nil ?_))))))
                  refine ej_th ?_
                  refine cj_cond rfl (fun h182 => ?_) (fun h182 => ?_)
                  · simp at h182
                  · have h182b := h182
                    try simp only [sxb] at h182
                    refine cj_skip (ej_blk (ej_th ?_))
                    refine cj_regionG (gj_step (y_move rfl) rfl rfl rfl (gj_step (y_add rfl rfl (by omega)) rfl rfl rfl (gj_step (y_assign rfl) rfl rfl rfl (gj_nil ?_))))
                    exact ej_nx (j + 1) (by omega) (by omega) ⟨rfl, rfl, rfl, rfl, rfl, rfl, rfl, trivial⟩
                · have h161b := h161
                  try simp only [sxb] at h161
                  refine cj_exit (ej_then_exit (ej_then_exit (ej_blk_hit (ej_blk (ej_th ?_)))))
                  refine cj_regionG (gj_step (y_move rfl) rfl rfl rfl (gj_step (y_add rfl rfl (by omega)) rfl rfl rfl (gj_step (y_assign rfl) rfl rfl rfl (gj_nil ?_))))
                  exact ej_nx (i + 1) (by omega) (by omega) ⟨rfl, rfl, rfl, rfl, rfl, trivial⟩
              · have h159b := h159
                try simp only [sxb] at h159
                refine cj_skip (ej_blk (ej_th ?_))
                refine cj_regionG (gj_step (y_move rfl) rfl rfl rfl (gj_step (y_add rfl rfl (by omega)) rfl rfl rfl (gj_step (y_assign rfl) rfl rfl rfl (gj_nil ?_))))
                exact ej_nx (i + 1) (by omega) (by omega) ⟨rfl, rfl, rfl, rfl, rfl, trivial⟩
      · have h48b := h48
        try simp only [sxb] at h48
        have hie : i = l.length := by omega
        subst hie
        refine cj_exit (ej_then_exit (ej_then_exit (ej_blk_hit (ej_th (cj_seq ?_)))))
        refine cj_regionG ?_
        refine gj_step (y_loadN Try.isAgg26 Try.sizeOf26 rfl) rfl rfl rfl (gj_step (y_loadN (hv := tk_all _ (bf_len hpl)) Try.isAgg48 Try.sizeOf48 rfl) rfl rfl rfl (gj_step (y_move rfl) rfl rfl rfl (?_)))
        refine gj_step (y_call Try.call32 rfl (fun w hp => k_stored s l (some ⟨b44, 0, none⟩) 32 w (hs.mono hp.below) h0 (hp.rdO (fun _ => rfl) (by unfold maxLen; rw [rooms_len]; omega)))) rfl rfl rfl ?_
        refine gj_step (y_move rfl) rfl rfl rfl (?_)
        refine gj_g 1 187 188 rfl rfl rfl rfl (fun hg187 => gj_yes rfl rfl rfl (y_call Try.call19 rfl (fun w hp => k_works w)) rfl rfl (gj_nil rfl)) ?_
        refine gj_step (y_and rfl rfl rfl) rfl rfl rfl (gj_step (y_assign rfl) rfl rfl rfl (?_))
        refine gj_nil ?_
        refine ej_th (cj_ret ?_)
        exact ej_ret1 rfl Try.results7 rfl (fun w' hp => ⟨by simp, hp.below⟩)

end Go.Proofs.Ytomidcehahdmbaa
