/- Texts of ours, joined: 13 of them. Conditions: none. -/
import Derived.Test.YtomidcehahdmbaaGreatZe
namespace Go.Proofs.YtomidcehahdmbaaGreat
open Go Go.Sx Go.RowKit Vm
def opnI (s : Str) (n : Nat) : Nat → List Int → Option Nat
  | r, [] => some r
  | r, k :: w => if btw 0 k (s.gates.length - 1) = true then (match s.gates[k.toNat]? with
    | none => none
    | some g => if leadN s n r g = true then opnI s n (nextN r g) w else none) else none
theorem opn_no {s : Str} {n r : Nat} {k : Int} {w : List Int} (h : btw 0 k (s.gates.length - 1) = false) : opnI s n r (k :: w) = none := by
  rw [opnI, if_neg (by rw [h]; simp)]
theorem opn_yes {s : StrV} {n r : Nat} {k : Int} {w : List Int} {g : GateV} (h : btw 0 k (s.gates.length - 1) = true) (hg : s.gates[k.toNat]? = some g) : opnI s.s n r (k :: w) = if leadN s.s n r g.n = true then opnI s.s n (nextN r g.n) w else none := by
  rw [opnI, gates_len, if_pos h, gate_get hg]
theorem opn_walk (s : Str) (n : Nat) : ∀ (l : List Nat) (r : Nat), opnI s n r (intsL l) = walkW s n r l
  | [], _ => rfl
  | k :: l, r => by
    show opnI s n r ((k : Int) :: intsL l) = _
    rw [opnI, walkW, Int.toNat_natCast]
    cases hg : s.gates[k]? with
    | none =>
      simp only
      split <;> rfl
    | some g =>
      have hk := (List.getElem?_eq_some_iff.1 hg).1
      rw [if_pos (btw_t.2 (by omega))]
      simp only
      by_cases hl : leadN s n r g = true
      · rw [if_pos hl, if_pos hl, opn_walk s n l]
      · rw [if_neg hl, if_neg hl]
/-- Each way of numbers that leads somewhere is one of gates. -/
theorem opn_nats (s : Str) (n : Nat) : ∀ (w : List Int) (r R : Nat), opnI s n r w = some R → w = intsL (w.map Int.toNat) ∧ walkW s n r (w.map Int.toNat) = some R
  | [], r, R, h => ⟨rfl, h⟩
  | k :: w, r, R, h => by
    have hb : btw 0 k (s.gates.length - 1) = true := by
      cases hb : btw 0 k (s.gates.length - 1) with
      | true => rfl
      | false => rw [opn_no hb] at h; cases h
    have h0 := btw_t.1 hb
    have e : k = ((k.toNat : Nat) : Int) := by omega
    rw [opnI, if_pos hb] at h
    cases hg : s.gates[k.toNat]? with
    | none => rw [hg] at h; cases h
    | some g =>
      rw [hg] at h
      simp only at h
      by_cases hl : leadN s n r g = true
      · rw [if_pos hl] at h
        obtain ⟨h1, h2⟩ := opn_nats s n w _ R h
        refine ⟨?_, ?_⟩
        · show k :: w = ((k.toNat : Nat) : Int) :: intsL (w.map Int.toNat)
          rw [← h1, ← e]
        · show walkW s n r (k.toNat :: w.map Int.toNat) = _
          rw [walkW, hg]; simp only [if_pos hl]; exact h2
      · rw [if_neg hl] at h; cases h
def ldI (s : StrV) (n r : Nat) (x : Int) : Bool := match s.gates[x.toNat]? with
  | none => false
  | some g => leadN s.s n r g.n
theorem ldI_at {s : StrV} {n r : Nat} {x : Int} {g : GateV} (h : s.gates[x.toNat]? = some g) : ldI s n r x = leadN s.s n r g.n := by unfold ldI; rw [h]
theorem opn_stop {s : StrV} {n r : Nat} {x : Int} {w : List Int} (h : (!btw 0 x (s.gates.length - 1) || !ldI s n r x) = true) : opnI s.s n r (x :: w) = none := by
  cases hb : btw 0 x (s.gates.length - 1) with
  | false => exact opn_no (by rw [gates_len]; exact hb)
  | true =>
    have h0 := btw_t.1 hb
    obtain ⟨g, hg⟩ : ∃ g, s.gates[x.toNat]? = some g := ⟨_, List.getElem?_eq_getElem (by omega)⟩
    rw [hb, Bool.not_true, Bool.false_or] at h
    rw [opn_yes (by exact hb) hg, if_neg]
    rw [← ldI_at hg, not_t h]; simp
def opnE (s : StrV) (g : Int) (w : List Int) : Int := if askE s g = 0 then (match opnI s.s g.toNat 1 w with | none => 42 | some _ => 0) else askE s g
def opnV (s : StrV) (g : Int) (w : List Int) : Nat := if askE s g = 0 then (opnI s.s g.toNat 1 w).getD 0 else 0
theorem opn_bad {s : StrV} {g : Int} {w : List Int} (h : askE s g ≠ 0) : opnE s g w = askE s g ∧ opnV s g w = 0 := ⟨by unfold opnE; rw [if_neg h], by unfold opnV; rw [if_neg h]⟩
theorem opn_42 {s : StrV} {g : Int} {w : List Int} (h : askE s g = 0) (h2 : opnI s.s g.toNat 1 w = none) : opnE s g w = 42 ∧ opnV s g w = 0 := ⟨by unfold opnE; rw [if_pos h, h2], by unfold opnV; rw [if_pos h, h2]; rfl⟩
theorem opn_ok {s : StrV} {g : Int} {w : List Int} {R : Nat} (h : askE s g = 0) (h2 : opnI s.s g.toNat 1 w = some R) : opnE s g w = 0 ∧ opnV s g w = R := ⟨by unfold opnE; rw [if_pos h, h2], by unfold opnV; rw [if_pos h, h2]; rfl⟩
/-! by depth -/
def dfsF (s : StrV) (n m d r i : Nat) : Option (List Nat) := match s.s.gates[i]? with
  | none => none
  | some g => if leadN s.s n r g = true then (dfs s.s n m d (nextN r g)).map (i :: ·) else none
theorem dfs_S (s : StrV) (n m d r : Nat) : dfs s.s n m (d + 1) r = ((List.range s.gates.length).drop 0).findSome? (dfsF s n m d r) := by
  rw [dfs, gates_len, List.drop_zero]; rfl
theorem dfs_step {s : StrV} {n m d r k : Nat} (hk : k < s.gates.length) : ((List.range s.gates.length).drop k).findSome? (dfsF s n m d r) = match dfsF s n m d r k with
    | some y => some y
    | none => ((List.range s.gates.length).drop (k + 1)).findSome? (dfsF s n m d r) := by
  rw [get_drop (List.getElem?_range hk), List.findSome?_cons]
  cases dfsF s n m d r k <;> rfl
theorem dfsF_no {s : StrV} {n m d r k : Nat} {g : GateV} (hg : s.gates[k]? = some g) (hl : leadN s.s n r g.n = false) : dfsF s n m d r k = none := by
  unfold dfsF; rw [gate_get hg]; simp [hl]
theorem dfsF_yes {s : StrV} {n m d r k : Nat} {g : GateV} (hg : s.gates[k]? = some g) (hl : leadN s.s n r g.n = true) : dfsF s n m d r k = (dfs s.s n m d (nextN r g.n)).map (k :: ·) := by
  unfold dfsF; rw [gate_get hg]; simp only [if_pos hl]
theorem dfs_0 (s : StrV) (n m r : Nat) : dfs s.s n m 0 r = if r.testBit m = true then some [] else none := rfl
theorem wayV_at {s : StrV} {n m k : Nat} {l : List Nat} (hk : k < s.rooms.length) (hno : ∀ j, j < k → dfs s.s n m j 1 = none) (h : dfs s.s n m k 1 = some l) : wayV s.s n m = some l := by
  unfold wayV wayF
  have e : List.range s.rooms.length = (List.range s.rooms.length).take k ++ (List.range s.rooms.length).drop k := (List.take_append_drop k _).symm
  show (List.range s.rooms.length).findSome? _ = _
  rw [e, List.findSome?_append, get_drop (List.getElem?_range hk), List.findSome?_cons, h]
  have h1 : ((List.range s.rooms.length).take k).findSome? (fun j => dfs s.s n m j 1) = none := by
    rw [List.findSome?_eq_none_iff]
    intro j hj
    rw [List.take_range] at hj
    exact hno j (by have := List.mem_range.1 hj; omega)
  rw [h1]; rfl
theorem wayV_no {s : StrV} {n m : Nat} (hno : ∀ j, j < s.rooms.length → dfs s.s n m j 1 = none) : wayV s.s n m = none := by
  unfold wayV wayF
  rw [List.findSome?_eq_none_iff]
  intro j hj
  exact hno j (List.mem_range.1 hj)
def wayE (s : StrV) (g room : Int) : Int := if askE s g = 0 then (if btw 0 room (s.rooms.length - 1) = true then (match wayV s.s g.toNat room.toNat with | none => 4 | some _ => 0) else 7) else askE s g
def wayL (s : StrV) (g room : Int) : List Nat := if askE s g = 0 then (if btw 0 room (s.rooms.length - 1) = true then (wayV s.s g.toNat room.toNat).getD [] else []) else []
theorem way_bad {s : StrV} {g m : Int} (h : askE s g ≠ 0) : wayE s g m = askE s g ∧ wayL s g m = [] := ⟨by unfold wayE; rw [if_neg h], by unfold wayL; rw [if_neg h]⟩
theorem way_7 {s : StrV} {g m : Int} (h : askE s g = 0) (h2 : btw 0 m (s.rooms.length - 1) = false) : wayE s g m = 7 ∧ wayL s g m = [] := ⟨by unfold wayE; rw [if_pos h, h2]; rfl, by unfold wayL; rw [if_pos h, h2]; rfl⟩
theorem way_4 {s : StrV} {g m : Int} (h : askE s g = 0) (h2 : btw 0 m (s.rooms.length - 1) = true) (h3 : wayV s.s g.toNat m.toNat = none) : wayE s g m = 4 ∧ wayL s g m = [] := ⟨by unfold wayE; rw [if_pos h, if_pos h2, h3], by unfold wayL; rw [if_pos h, if_pos h2, h3]; rfl⟩
theorem way_0 {s : StrV} {g m : Int} {l : List Nat} (h : askE s g = 0) (h2 : btw 0 m (s.rooms.length - 1) = true) (h3 : wayV s.s g.toNat m.toNat = some l) : wayE s g m = 0 ∧ wayL s g m = l := ⟨by unfold wayE; rw [if_pos h, if_pos h2, h3], by unfold wayL; rw [if_pos h, if_pos h2, h3]; rfl⟩
def aheadB : List Int → List Int → Bool
  | x :: a, y :: b => if x = y then aheadB a b else decide (x < y)
  | [], _ :: _ => true
  | _, [] => false
theorem ahead_drop {a b : List Int} {k : Nat} {x y : Int} (hx : a[k]? = some x) (hy : b[k]? = some y) : aheadB (a.drop k) (b.drop k) = if x = y then aheadB (a.drop (k + 1)) (b.drop (k + 1)) else decide (x < y) := by
  rw [get_drop hx, get_drop hy, aheadB]
theorem ahead_end {a b : List Int} {k : Nat} (ha : k ≤ a.length) (hb : k ≤ b.length) (h : a.length = k ∨ b.length = k) : aheadB (a.drop k) (b.drop k) = decide (a.length < b.length) := by
  rcases h with h | h
  · rw [List.drop_of_length_le (show a.length ≤ k by omega)]
    by_cases h2 : b.length = k
    · rw [List.drop_of_length_le (show b.length ≤ k by omega), decide_eq_false (by omega)]; rfl
    · have hk : k < b.length := by omega
      rw [get_drop (List.getElem?_eq_getElem hk), decide_eq_true (by omega)]; rfl
  · rw [List.drop_of_length_le (show b.length ≤ k by omega), decide_eq_false (by omega)]
    cases a.drop k <;> rfl
end Go.Proofs.YtomidcehahdmbaaGreat
namespace Go.Proofs.YtomidcehahdmbaaGreat
open Go.Sx Go.RowKit Vm
set_option maxRecDepth 20000
theorem k_Clone (l : List Int) (A : Option Addr) (c : Nat) (w : World) (hl : Rd w 1 enInt A l) (h8 : l.length ≤ 1000000) : Calls Tryz.prog 50 #[.slice A l.length c] w (fun e w' => ∃ B d, e = .returned (.slice B l.length d) ∧ Grow w w' ∧ (ow 3 1 enInt B d l).P w' ∧ ∀ b, (ow 3 1 enInt B d l).fp b → w.heap.size ≤ b) := by
  refine enter_pure (args := [.slice A l.length c]) [sl (fun b => b < w.heap.size) 1 enInt A l] Tryz.func50 rfl (by rw [Tryz.ntmps50]; simp) (fun g hg => by simp at hg; subst hg; exact ⟨hl, fun _ h => h⟩) ?_
  refine cj_seq ?_
  refine cj_regionG (gj_step (y_assign rfl) rfl rfl rfl (gj_nil ?_))
  refine ej_th (cj_seq (cj_seq ?_))
  refine cj_regionG (gj_step (y_move rfl) rfl rfl rfl (gj_step (y_eqlNil Tryz.underlying24 rfl rfl) rfl rfl rfl (gj_nil ?_)))
  refine ej_th ?_
  refine cj_cond rfl (fun h4 => ?_) (fun h4 => ?_)
  · have h4b := h4
    try simp only [sxb] at h4
    have hl0 : l = [] := by
      cases l with
      | nil => rfl
      | cons x r => exact absurd (by cases A with | none => rfl | some a => cases h4) (hl.ne (by simp))
    refine cj_seq ?_
    refine cj_regionG (gj_step (y_assign rfl) rfl rfl rfl (gj_nil ?_))
    refine ej_th (cj_ret (ej_then_ret ?_))
    subst hl0
    exact ej_ret1 rfl Tryz.results50 rfl (fun w' hp => ⟨none, 0, rfl, hp.below, ow_nil 3 1 enInt w', fun b hb => by cases hb⟩)
  · have h4b := h4
    try simp only [sxb] at h4
    refine cj_skip (ej_th (cj_seq (cj_region ?_)))
    refine oj_buildSlice (cs := []) [] Tryz.underlying24 Tryz.sizeOf3 Tryz.zeroValue3 rfl rfl (by kernel_rfl) (by kernel_rfl) rfl (fun b5 => ?_)
    refine oj_litOw (b := b5) (e := 3) (c := 0) (sz := 1) (enc := enInt) [] rfl rfl rfl (by unfold maxLen; simp) ?_
    refine oj_step (y_move rfl) rfl rfl rfl ?_
    refine oj_append (xs := ([] : List Int)) (c := 0) el24 (fun _ => rfl) enInt_one rfl rfl rfl (reads_sl) (by unfold maxLen; simp only [List.length_nil]; omega) (by simp only [List.length_nil]; omega) rfl (fun A7 c7 => ?_)
    refine oj_step (y_assign rfl) rfl rfl rfl ?_
    refine oj_nil ?_
    refine ej_th (cj_ret ?_)
    exact ej_ret1 rfl Tryz.results50 rfl (fun w' hp => ⟨A7, c7, by simp, hp.below, by have h9 := hp.resO (A := A7) (e := 3) (c := c7) (sz := 1) (enc := enInt) (xs := [] ++ l); simpa using h9⟩)

end Go.Proofs.YtomidcehahdmbaaGreat
namespace Go.Proofs.YtomidcehahdmbaaGreat
open Go.Sx Go.RowKit Vm
set_option maxRecDepth 20000
theorem k_valid (s : StrV) (l : List CarryV) (A : Option Addr) (cc : Nat) (w : World) (hs : StrRd w s) (hl : Rd w 8 encCa A l) : Calls Tryz.prog 14 #[.agg #[.slice s.Ar s.rooms.length s.cr, .slice s.Ag s.gates.length s.cg, .slice s.As s.staff.length s.cs], .slice A l.length cc] w (fun e w' => e = .returned (.bool (logB s.s l)) ∧ Grow w w') := by
  have hlr := hs.rooms.len
  have hls := hs.staff.len
  have hll := hl.len
  refine enter_pure (args := [.agg #[.slice s.Ar s.rooms.length s.cr, .slice s.Ag s.gates.length s.cg, .slice s.As s.staff.length s.cs], .slice A l.length cc]) [sl (fun b => b < w.heap.size) 8 encCa A l] Tryz.func14 rfl (by rw [Tryz.ntmps14]; simp) (fun g hg => by simp at hg; subst hg; exact ⟨hl, fun _ h => h⟩) ?_
  refine cj_seq (cj_region ?_)
  refine oj_box rfl rfl rfl (fun b2 => ?_)
  refine oj_step (y_assign rfl) rfl rfl rfl ?_
  refine oj_nil ?_
  refine ej_th (cj_seq ?_)
  refine cj_regionG (gj_step (y_assign rfl) rfl rfl rfl (gj_nil ?_))
  refine ej_th (cj_seq (cj_seq ?_))
  refine cj_regionG (gj_step (y_move rfl) rfl rfl rfl (gj_step (y_lenA Tryz.underlying27 rfl) rfl rfl rfl (gj_step (y_move rfl) rfl rfl rfl (gj_nil ?_))))
  refine ej_th (cj_block ?_)
  refine cj_lpic (X := Nat × Int) [(1, _), (2, _), (11, _), (12, _)] (fun ⟨k, last⟩ => k ≤ l.length ∧ formB s.s last (l.drop k) = formB s.s 0 l) (fun ⟨k, last⟩ => [(5, .int .i64 last), (13, .int .i64 (k : Nat))]) (fun ⟨k, last⟩ => l.length - k) (0, 0) (⟨Nat.zero_le _, rfl⟩) ⟨rfl, rfl, rfl, rfl, rfl, rfl, trivial⟩ ?_
  rintro ⟨k, last⟩ ⟨hk, hsk⟩
  dsimp only [List.cons_append, List.nil_append]
  refine cj_seq ?_
  refine cj_regionG (gj_step (y_lss rfl rfl) rfl rfl rfl (gj_nil ?_))
  refine ej_th (cj_seq ?_)
  refine cj_cond rfl (fun h14 => ?_) (fun h14 => ?_)
  · have h14b := h14
    try simp only [sxb] at h14
    obtain ⟨c, hck⟩ : ∃ c, l[k]? = some c := ⟨_, List.getElem?_eq_getElem (by omega)⟩
    rw [form_drop s.s last hck] at hsk
    refine cj_skip (ej_th (cj_seq (cj_block (cj_seq (cj_region ?_)))))
    refine oj_step (y_ixR (reads_sl) Tryz.underlying27 Tryz.sizeOf60 rfl rfl (⟨by omega, by omega⟩)) rfl rfl rfl ?_
    refine oj_step (y_ldW (reads_sl) Tryz.isAgg60 Tryz.sizeOf60 rfl (hck) (fun _ => rfl)) rfl rfl rfl ?_
    refine oj_alloc Tryz.zeroValue60 rfl rfl (fun b7 => ?_)
    refine oj_store rfl rfl rfl rfl Tryz.sizeOf60 rfl ?_
    refine oj_nil ?_
    refine ej_th (cj_seq (cj_seq ?_))
    refine cj_regionG ?_
    refine gj_step (y_fa0 fa60_0 rfl) rfl rfl rfl (gj_step (y_load1 Tryz.isAgg3 rfl rfl) rfl rfl rfl (gj_step (y_move rfl) rfl rfl rfl (?_)))
    refine gj_step (y_call Tryz.call17 rfl (fun w hp => k_within _ _ _ w)) rfl rfl rfl ?_
    refine gj_step (y_not rfl) rfl rfl rfl (gj_step (y_move rfl) rfl rfl rfl (?_))
    refine gj_g 4 22 26 rfl rfl rfl rfl (fun hg22 => gj_yes rfl rfl rfl (y_fa fa60_2 rfl) rfl rfl (gj_yes rfl rfl rfl (y_load1 Tryz.isAgg3 rfl rfl) rfl rfl (gj_yes rfl rfl rfl (y_call Tryz.call17 rfl (fun w hp => k_within _ _ _ w)) rfl rfl (gj_yes rfl rfl rfl (y_not rfl) rfl rfl (gj_nil rfl))))) ?_
    refine gj_step (y_or rfl rfl rfl) rfl rfl rfl (gj_step (y_move rfl) rfl rfl rfl (?_))
    refine gj_g 8 28 36 rfl rfl rfl rfl (fun hg28 => gj_yes rfl rfl rfl (y_fa fa60_4 rfl) rfl rfl (gj_yes rfl rfl rfl (y_load1 Tryz.isAgg3 rfl rfl) rfl rfl (gj_yes rfl rfl rfl (y_fa fa26_2 rfl) rfl rfl (gj_yes rfl rfl rfl (y_load1 Tryz.isAgg24 rfl rfl) rfl rfl (gj_yes rfl rfl rfl (y_lenA Tryz.underlying24 rfl) rfl rfl (gj_yes rfl rfl rfl (y_sub rfl rfl (by omega)) rfl rfl (gj_yes rfl rfl rfl (y_call Tryz.call17 rfl (fun w hp => k_within _ _ _ w)) rfl rfl (gj_yes rfl rfl rfl (y_not rfl) rfl rfl (gj_nil rfl))))))))) ?_
    refine gj_step (y_or rfl rfl rfl) rfl rfl rfl (gj_step (y_move rfl) rfl rfl rfl (?_))
    refine gj_g 8 38 46 rfl rfl rfl rfl (fun hg38 => gj_yes rfl rfl rfl (y_fa fa60_5 rfl) rfl rfl (gj_yes rfl rfl rfl (y_load1 Tryz.isAgg3 rfl rfl) rfl rfl (gj_yes rfl rfl rfl (y_fa fa26_2 rfl) rfl rfl (gj_yes rfl rfl rfl (y_load1 Tryz.isAgg24 rfl rfl) rfl rfl (gj_yes rfl rfl rfl (y_lenA Tryz.underlying24 rfl) rfl rfl (gj_yes rfl rfl rfl (y_sub rfl rfl (by omega)) rfl rfl (gj_yes rfl rfl rfl (y_call Tryz.call17 rfl (fun w hp => k_within _ _ _ w)) rfl rfl (gj_yes rfl rfl rfl (y_not rfl) rfl rfl (gj_nil rfl))))))))) ?_
    refine gj_step (y_or rfl rfl rfl) rfl rfl rfl (gj_step (y_move rfl) rfl rfl rfl (?_))
    refine gj_g 5 48 53 rfl rfl rfl rfl (fun hg48 => gj_yes rfl rfl rfl (y_fa fa60_4 rfl) rfl rfl (gj_yes rfl rfl rfl (y_load1 Tryz.isAgg3 rfl rfl) rfl rfl (gj_yes rfl rfl rfl (y_fa fa60_5 rfl) rfl rfl (gj_yes rfl rfl rfl (y_load1 Tryz.isAgg3 rfl rfl) rfl rfl (gj_yes rfl rfl rfl (y_eql rfl rfl) rfl rfl (gj_nil rfl)))))) ?_
    refine gj_step (y_or rfl rfl rfl) rfl rfl rfl (?_)
    refine gj_nil ?_
    refine ej_th ?_
    refine cj_cond rfl (fun h54 => ?_) (fun h54 => ?_)
    · have h54b := h54
      try simp only [sxb] at h54
      rw [car1_V] at h54b
      refine cj_seq ?_
      refine cj_regionG (gj_step (y_assign rfl) rfl rfl rfl (gj_nil ?_))
      refine ej_th (cj_ret (ej_then_ret (ej_blk_ret (ej_then_ret (ej_then_ret (ej_blk_ret (ej_then_ret ?_)))))))
      refine ej_ret1 rfl Tryz.results14 rfl (fun w' hp => ⟨?_, hp.below⟩)
      rw [logB_no]
      rw [← hsk, car_eq, not_t h54b]; rfl
    · have h54b := h54
      try simp only [sxb] at h54
      rw [car1_V] at h54b
      refine cj_skip (ej_th (cj_seq ?_))
      refine cj_regionG (gj_step (y_fa0 fa60_0 rfl) rfl rfl rfl (gj_step (y_load1 Tryz.isAgg3 rfl rfl) rfl rfl rfl (gj_step (y_assign rfl) rfl rfl rfl (gj_nil ?_))))
      refine ej_th (cj_seq ?_)
      refine cj_draw (by kernel_rfl) (by kernel_rfl) ?_
      refine gj_step (y_fa fa60_3 rfl) rfl rfl rfl (gj_step (y_load1 Tryz.isAgg3 rfl rfl) rfl rfl rfl (gj_step (y_fa0 fa26_0 rfl) rfl rfl rfl (gj_step (y_load1 Tryz.isAgg22 rfl rfl) rfl rfl rfl (gj_step (y_lenA Tryz.underlying22 rfl) rfl rfl rfl (gj_step (y_sub rfl rfl (by omega)) rfl rfl rfl (?_))))))
      refine gj_step (y_call Tryz.call17 rfl (fun w hp => k_within _ _ _ w)) rfl rfl rfl ?_
      refine gj_step (y_fa fa60_6 rfl) rfl rfl rfl (gj_step (y_load1 Tryz.isAgg3 rfl rfl) rfl rfl rfl (?_))
      refine gj_step (y_call Tryz.call17 rfl (fun w hp => k_within _ _ _ w)) rfl rfl rfl ?_
      refine gj_step (y_assign rfl) rfl rfl rfl (gj_step (y_assign rfl) rfl rfl rfl (?_))
      refine gj_nil ?_
      refine ej_th (cj_seq ?_)
      refine cj_regionG (gj_step (y_assign rfl) rfl rfl rfl (gj_nil ?_))
      refine ej_th ?_
      refine cj_cutic (X := Bool) [(5, _), (13, _), (1, _), (2, _), (11, _), (12, _)] ⟨rfl, rfl, rfl, rfl, rfl, rfl, trivial⟩ (fun x => x = kindB s.rooms.length c) (fun x => [(10, .bool x)]) ?_ ?_
      · refine cj_seq ?_
        refine cj_regionG (gj_step (y_fa fa60_1 rfl) rfl rfl rfl (gj_step (y_load1 Tryz.isAgg3 rfl rfl) rfl rfl rfl (gj_nil ?_)))
        refine ej_th (cj_block (cj_seq ?_))
        refine cj_regionG (gj_step (y_eql rfl rfl) rfl rfl rfl (gj_step (y_assign rfl) rfl rfl rfl (gj_nil ?_)))
        refine ej_th ?_
        refine cj_cond rfl (fun h69 => ?_) (fun h69 => ?_)
        · have h69b := h69
          try simp only [sxb] at h69
          refine cj_regionG ?_
          refine gj_step (y_move rfl) rfl rfl rfl (gj_step (y_move rfl) rfl rfl rfl (?_))
          refine gj_g 1 72 73 rfl rfl rfl rfl (fun hg72 => gj_yes rfl rfl rfl (y_move rfl) rfl rfl (gj_nil rfl)) ?_
          refine gj_step (y_and rfl rfl rfl) rfl rfl rfl (gj_step (y_move rfl) rfl rfl rfl (?_))
          refine gj_g 3 75 78 rfl rfl rfl rfl (fun hg75 => gj_yes rfl rfl rfl (y_fa fa60_7 rfl) rfl rfl (gj_yes rfl rfl rfl (y_load1 Tryz.isAgg3 rfl rfl) rfl rfl (gj_yes rfl rfl rfl (y_call Tryz.call17 rfl (fun w hp => k_within _ _ _ w)) rfl rfl (gj_nil rfl)))) ?_
          refine gj_step (y_and rfl rfl rfl) rfl rfl rfl (gj_step (y_assign rfl) rfl rfl rfl (?_))
          refine gj_nil ?_
          refine ej_blk ?_
          exact ej_ct _ (by rw [kindB, if_pos h69]) ⟨rfl, rfl, rfl, rfl, rfl, rfl, rfl, trivial⟩
        · have h69b := h69
          try simp only [sxb] at h69
          refine cj_seq ?_
          refine cj_regionG (gj_step (y_eql rfl rfl) rfl rfl rfl (gj_step (y_assign rfl) rfl rfl rfl (gj_nil ?_)))
          refine ej_th ?_
          refine cj_cond rfl (fun h80 => ?_) (fun h80 => ?_)
          · have h80b := h80
            try simp only [sxb] at h80
            refine cj_regionG (gj_step (y_move rfl) rfl rfl rfl (gj_step (y_move rfl) rfl rfl rfl (gj_g 3 83 86 rfl rfl rfl rfl (fun hg83 => gj_yes rfl rfl rfl (y_fa fa60_6 rfl) rfl rfl (gj_yes rfl rfl rfl (y_load1 Tryz.isAgg3 rfl rfl) rfl rfl (gj_yes rfl rfl rfl (y_eql rfl rfl) rfl rfl (gj_nil rfl)))) (gj_step (y_and rfl rfl rfl) rfl rfl rfl (gj_step (y_move rfl) rfl rfl rfl (gj_g 3 88 91 rfl rfl rfl rfl (fun hg88 => gj_yes rfl rfl rfl (y_fa fa60_7 rfl) rfl rfl (gj_yes rfl rfl rfl (y_load1 Tryz.isAgg3 rfl rfl) rfl rfl (gj_yes rfl rfl rfl (y_eql rfl rfl) rfl rfl (gj_nil rfl)))) (gj_step (y_and rfl rfl rfl) rfl rfl rfl (gj_step (y_assign rfl) rfl rfl rfl (gj_nil ?_)))))))))
            refine ej_blk ?_
            exact ej_ct _ (by rw [kindB, if_neg h69, if_pos h80]; rfl) ⟨rfl, rfl, rfl, rfl, rfl, rfl, rfl, trivial⟩
          · have h80b := h80
            try simp only [sxb] at h80
            refine cj_cutic (X := Bool) [(5, _), (13, _), (1, _), (2, _), (11, _), (12, _), (7, _), (9, _), (10, _), (68, _)] ⟨rfl, rfl, rfl, rfl, rfl, rfl, rfl, rfl, rfl, rfl, trivial⟩ (fun z => z = decide (c.kind = 3 ∨ c.kind = 4)) (fun z => [(93, .bool z)]) ?_ ?_
            · refine cj_seq ?_
              refine cj_regionG (gj_step (y_eql rfl rfl) rfl rfl rfl (gj_step (y_assign rfl) rfl rfl rfl (gj_nil ?_)))
              refine ej_th ?_
              refine cj_cond rfl (fun h93 => ?_) (fun h93 => ?_)
              · have h93b := h93
                try simp only [sxb] at h93
                try have hz := of_decide_eq_true (hzz.symm.trans h93b)
                refine cj_skip ?_
                exact ej_ct _ (by simp [h93]) ⟨rfl, rfl, rfl, rfl, rfl, rfl, rfl, rfl, rfl, rfl, rfl, trivial⟩
              · have h93b := h93
                try simp only [sxb] at h93
                try have hz := of_decide_eq_false (hzz.symm.trans h93b)
                refine cj_regionG (gj_step (y_eql rfl rfl) rfl rfl rfl (gj_step (y_assign rfl) rfl rfl rfl (gj_nil ?_)))
                exact ej_ct _ (by by_cases h4 : c.kind = 4 <;> simp [h93, h4]) ⟨rfl, rfl, rfl, rfl, rfl, rfl, rfl, rfl, rfl, rfl, rfl, trivial⟩
            · rintro z hzz
              dsimp only [List.cons_append, List.nil_append]
              refine cj_cond rfl (fun h93 => ?_) (fun h93 => ?_)
              · have h93b := h93
                try simp only [sxb] at h93
                try have hz := of_decide_eq_true (hzz.symm.trans h93b)
                refine cj_regionG (gj_step (y_fa fa60_3 rfl) rfl rfl rfl (gj_step (y_load1 Tryz.isAgg3 rfl rfl) rfl rfl rfl (gj_step (y_eql rfl rfl) rfl rfl rfl (gj_step (y_move rfl) rfl rfl rfl (gj_g 1 99 100 rfl rfl rfl rfl (fun hg99 => gj_yes rfl rfl rfl (y_move rfl) rfl rfl (gj_nil rfl)) (gj_step (y_and rfl rfl rfl) rfl rfl rfl (gj_step (y_move rfl) rfl rfl rfl (gj_g 3 102 105 rfl rfl rfl rfl (fun hg102 => gj_yes rfl rfl rfl (y_fa fa60_7 rfl) rfl rfl (gj_yes rfl rfl rfl (y_load1 Tryz.isAgg3 rfl rfl) rfl rfl (gj_yes rfl rfl rfl (y_eql rfl rfl) rfl rfl (gj_nil rfl)))) (gj_step (y_and rfl rfl rfl) rfl rfl rfl (gj_step (y_assign rfl) rfl rfl rfl (gj_nil ?_)))))))))))
                refine ej_blk ?_
                exact ej_ct _ (by rw [kindB, if_neg h69, if_neg h80, if_pos hz]; rfl) ⟨rfl, rfl, rfl, rfl, rfl, rfl, rfl, trivial⟩
              · have h93b := h93
                try simp only [sxb] at h93
                try have hz := of_decide_eq_false (hzz.symm.trans h93b)
                refine cj_seq ?_
                refine cj_regionG (gj_step (y_eql rfl rfl) rfl rfl rfl (gj_step (y_assign rfl) rfl rfl rfl (gj_nil ?_)))
                refine ej_th ?_
                refine cj_cond rfl (fun h107 => ?_) (fun h107 => ?_)
                · have h107b := h107
                  try simp only [sxb] at h107
                  refine cj_regionG (gj_step (y_fa fa60_3 rfl) rfl rfl rfl (gj_step (y_load1 Tryz.isAgg3 rfl rfl) rfl rfl rfl (gj_step (y_eql rfl rfl) rfl rfl rfl (gj_step (y_move rfl) rfl rfl rfl (gj_g 3 112 115 rfl rfl rfl rfl (fun hg112 => gj_yes rfl rfl rfl (y_fa fa60_6 rfl) rfl rfl (gj_yes rfl rfl rfl (y_load1 Tryz.isAgg3 rfl rfl) rfl rfl (gj_yes rfl rfl rfl (y_eql rfl rfl) rfl rfl (gj_nil rfl)))) (gj_step (y_and rfl rfl rfl) rfl rfl rfl (gj_step (y_move rfl) rfl rfl rfl (gj_g 3 117 120 rfl rfl rfl rfl (fun hg117 => gj_yes rfl rfl rfl (y_fa fa60_7 rfl) rfl rfl (gj_yes rfl rfl rfl (y_load1 Tryz.isAgg3 rfl rfl) rfl rfl (gj_yes rfl rfl rfl (y_eql rfl rfl) rfl rfl (gj_nil rfl)))) (gj_step (y_and rfl rfl rfl) rfl rfl rfl (gj_step (y_assign rfl) rfl rfl rfl (gj_nil ?_)))))))))))
                  refine ej_blk ?_
                  exact ej_ct _ (by rw [kindB, if_neg h69, if_neg h80, if_neg hz, if_pos h107]; rfl) ⟨rfl, rfl, rfl, rfl, rfl, rfl, rfl, trivial⟩
                · have h107b := h107
                  try simp only [sxb] at h107
                  refine cj_skip (ej_blk ?_)
                  exact ej_ct _ (by rw [kindB, if_neg h69, if_neg h80, if_neg hz, if_neg h107]) ⟨rfl, rfl, rfl, rfl, rfl, rfl, rfl, trivial⟩
      · rintro x rfl
        dsimp only [List.cons_append, List.nil_append]
        refine cj_seq ?_
        refine cj_regionG (gj_step (y_move rfl) rfl rfl rfl (gj_step (y_not rfl) rfl rfl rfl (gj_nil ?_)))
        refine ej_th ?_
        refine cj_cond rfl (fun h123 => ?_) (fun h123 => ?_)
        · have h123b := h123
          try simp only [sxb] at h123
          refine cj_seq ?_
          refine cj_regionG (gj_step (y_assign rfl) rfl rfl rfl (gj_nil ?_))
          refine ej_th (cj_ret (ej_blk_ret (ej_then_ret (ej_then_ret (ej_blk_ret (ej_then_ret ?_))))))
          refine ej_ret1 rfl Tryz.results14 rfl (fun w' hp => ⟨?_, hp.below⟩)
          rw [logB_no]
          rw [← hsk, car_eq, not_t h123b, Bool.and_false]; rfl
        · have h123b := h123
          try simp only [sxb] at h123
          refine cj_skip (ej_blk (ej_th ?_))
          refine cj_regionG (gj_step (y_add rfl rfl (by omega)) rfl rfl rfl (gj_step (y_move rfl) rfl rfl rfl (gj_nil ?_)))
          exact ej_nx (k + 1, c.day) (by first | omega | (simp only; omega)) ⟨by first | omega | (simp only; omega), by rw [← hsk, car_eq, not_f h54b, not_f h123b]; rfl⟩ ⟨rfl, rfl, rfl, rfl, rfl, rfl, trivial⟩
  · have h14b := h14
    try simp only [sxb] at h14
    refine cj_exit (ej_then_exit (ej_then_exit (ej_blk_hit (ej_th (cj_seq ?_)))))
    refine cj_regionG (gj_step (y_move rfl) rfl rfl rfl (gj_step (y_lenA Tryz.underlying27 rfl) rfl rfl rfl (gj_step (y_leq rfl rfl) rfl rfl rfl (gj_step (y_assign rfl) rfl rfl rfl (gj_nil ?_)))))
    refine ej_th (cj_ret ?_)
    refine ej_ret1 rfl Tryz.results14 rfl (fun w' hp => ⟨?_, hp.below⟩)
    rw [logB_yes]
    rw [← hsk, List.drop_of_length_le (by omega)]; rfl

abbrev chP (n : Int) : List PanicEntry := [{ v := .iface 83 (.agg #[.int .i64 n]), recovered := false }]
abbrev logB1 (b : Nat) (s : StrV) (m : Nat) (st : LogV) : Fact := ownB b (cellsB 49 (logC s m st))
abbrev lgF (b m : Nat) (s : StrV) (st : LogV) : List Fact := [logB1 b s m st, mp ekI evB m (sealL st.seals)]

theorem k_need (p : Bool) (n : Int) (w : World)  : Calls Tryz.prog 81 #[.bool p, .int .i64 n] w (fun e w' => e = endP p (.tuple #[]) (chP n) ∧ Grow w w') := by
  refine enter_pure (args := [.bool p, .int .i64 n]) [] Tryz.func81 rfl (by rw [Tryz.ntmps81]; simp) (by simp) ?_
  refine cj_seq ?_
  refine cj_regionG (gj_step (y_move rfl) rfl rfl rfl (gj_step (y_not rfl) rfl rfl rfl (gj_nil ?_)))
  refine ej_th ?_
  refine cj_cond rfl (fun h5 => ?_) (fun h5 => ?_)
  · have h5b := h5
    try simp only [sxb] at h5
    have hpf := not_t h5b
    refine cj_region ?_
    refine oj_step (y_move rfl) rfl rfl rfl ?_
    refine oj_step (y_build (cs := [.int .i64 n]) st83 rfl (by kernel_rfl)) rfl rfl rfl ?_
    refine oj_step (y_iface rfl (by kernel_rfl)) rfl rfl rfl ?_
    refine oj_panic rfl ?_
    repeat (first | with_reducible refine ej_then_pan ?_ | with_reducible refine ej_blk_pan ?_ | with_reducible refine ej_noGoto_pan ?_ | with_reducible refine ej_np_pan ?_)
    exact ej_pan rfl (fun w' hp => ⟨by rw [hpf]; rfl, hp.below⟩)
  · have h5b := h5
    try simp only [sxb] at h5
    have hpt := not_f h5b
    refine cj_skip ?_
    exact ej_end0 rfl Tryz.results81 (fun w' hp => ⟨by rw [hpt]; rfl, hp.below⟩)

theorem k_reaches (s : StrV) (st : LogV) (c : CarryV) (room : Int) (b m : Nat) (w : World) (hs : StrRd w s) (hb : strB s.s = true) (hc : COk s.s c) (hlg : (logB1 b s m st).P w) (hr : 0 ≤ room ∧ room ≤ 5) : Calls Tryz.prog 82 #[.pointer (some ⟨b, 0, none⟩), .agg #[.int .i64 c.day, .int .i64 c.kind, .int .i64 c.bag, .int .i64 c.to_, .int .i64 c.by_, .int .i64 c.with_, .int .i64 c.mark, .int .i64 c.suits], .int .i64 room] w (fun e w' => e = endP ((reachC s.s c).testBit room.toNat) (.tuple #[]) (chP 45) ∧ Grow w w') := by
  have hok := StrOk.of hb
  have hnr := hok.nr
  have hng := hok.ng
  have hns := hok.ns
  have hsl : s.s.staff.length = s.staff.length := rfl
  have hsr : s.s.rooms.length = s.rooms.length := rfl
  have hcb := hc.by_
  have hcw := hc.with_
  have hg64 : grpC c < 64 := Nat.lt_of_lt_of_le (grp_lt hc) (pow_le64 hns.2)
  have hrl := reachV_lt hb (grpC c)
  have h64r : 2 ^ s.s.rooms.length ≤ 64 := pow_le64 hnr.2
  have hp1 := pow_bd (k := c.by_.toNat) (n := 6) (by omega) (by omega)
  have hp2 := pow_bd (k := c.with_.toNat) (n := 6) (by omega) (by omega)
  have hp3 := pow_bd (k := room.toNat) (n := 6) (by omega) (by omega)
  refine enter_pure (args := [.pointer (some ⟨b, 0, none⟩), .agg #[.int .i64 c.day, .int .i64 c.kind, .int .i64 c.bag, .int .i64 c.to_, .int .i64 c.by_, .int .i64 c.with_, .int .i64 c.mark, .int .i64 c.suits], .int .i64 room]) [logB1 b s m st] Tryz.func82 rfl (by rw [Tryz.ntmps82]; simp) (fun f hf => by
    simp only [List.mem_cons, List.mem_nil_iff, or_false] at hf
    rcases hf with rfl
    · exact ⟨hlg, fun i hi => by have : i = b := hi; subst this; exact (Array.getElem?_eq_some_iff.1 hlg).1⟩) ?_
  refine cj_seq (cj_region ?_)
  refine oj_box rfl rfl rfl (fun b4 => ?_)
  refine oj_nil ?_
  refine ej_th ?_
  refine cj_plan 17 (by kernel_rfl) (by kernel_rfl) ?_
  refine pl_y 0 rfl (y_move rfl) rfl rfl rfl rfl (by kernel_rfl) ?_
  refine pl_y 1 rfl (y_nil rfl) rfl rfl rfl rfl (by kernel_rfl) ?_
  refine pl_y 2 rfl (y_fa0 fa49_0 rfl) rfl rfl rfl rfl (by kernel_rfl) ?_
  refine pl_y 3 rfl (y_loadSN Tryz.isAgg26 Tryz.sizeOf26 rfl) rfl rfl rfl rfl (by kernel_rfl) ?_
  refine pl_y 4 rfl (y_fa fa60_4 rfl) rfl rfl rfl rfl (by kernel_rfl) ?_
  refine pl_y 5 rfl (y_load1 Tryz.isAgg3 rfl rfl) rfl rfl rfl rfl (by kernel_rfl) ?_
  refine pl_y 6 rfl (y_shl1I rfl rfl (by omega) (by omega)) rfl rfl rfl rfl (by kernel_rfl) ?_
  refine pl_y 7 rfl (y_fa fa60_5 rfl) rfl rfl rfl rfl (by kernel_rfl) ?_
  refine pl_y 8 rfl (y_load1 Tryz.isAgg3 rfl rfl) rfl rfl rfl rfl (by kernel_rfl) ?_
  refine pl_y 9 rfl (y_shl1I rfl rfl (by omega) (by omega)) rfl rfl rfl rfl (by kernel_rfl) ?_
  refine pl_y 10 rfl (y_orN rfl rfl (by omega) (by omega)) rfl rfl rfl rfl (by kernel_rfl) ?_
  refine pl_y 11 rfl (y_build (cs := [.slice s.Ar s.rooms.length s.cr, .slice s.Ag s.gates.length s.cg, .slice s.As s.staff.length s.cs, .int .i64 (grpC c : Nat)]) st80 rfl (by kernel_rfl)) rfl rfl rfl rfl (by kernel_rfl) ?_
  refine pl_y 12 rfl (y_call Tryz.call47 rfl (fun w hp => k_reach s (grpC c) w (hs.mono hp.below) hb hg64)) rfl rfl rfl rfl (by kernel_rfl) ?_
  refine pl_y 13 rfl (y_move rfl) rfl rfl rfl rfl (by kernel_rfl) ?_
  refine pl_y 14 rfl (y_shl1I rfl rfl (by omega) (by omega)) rfl rfl rfl rfl (by kernel_rfl) ?_
  refine pl_y 15 rfl (y_call Tryz.call48 rfl (fun w hp => k_has (reachV s.s (grpC c)) (2 ^ room.toNat) w (by omega) (by omega))) rfl rfl rfl rfl (by kernel_rfl) ?_
  refine pl_w1 16 (by kernel_rfl) rfl rfl (pl_fire rfl rfl rfl (by kernel_rfl) ?_)
  refine oj_callP Tryz.call81 rfl (fun w1 hp => k_need _ _ w1) rfl (fun hpF => ?_) (fun hpT => ?_)
  · repeat (first | with_reducible refine ej_then_pan ?_ | with_reducible refine ej_blk_pan ?_ | with_reducible refine ej_noGoto_pan ?_ | with_reducible refine ej_np_pan ?_)
    exact ej_pan rfl (fun w2 hp => ⟨by rw [← hasN_bit]; unfold reachC; rw [hpF]; rfl, hp.below⟩)
  refine oj_nil ?_
  refine ej_pl (lt_w (by kernel_rfl) (lt_y (y_shl1I rfl rfl (by omega) (by omega)) rfl (lt_y (y_move rfl) rfl (lt_y (y_call Tryz.call47 rfl (fun w hp => k_reach s (grpC c) w (hs.mono hp.below) hb hg64)) rfl (lt_y (y_build (cs := [.slice s.Ar s.rooms.length s.cr, .slice s.Ag s.gates.length s.cg, .slice s.As s.staff.length s.cs, .int .i64 (grpC c : Nat)]) st80 rfl (by kernel_rfl)) rfl (lt_y (y_orN rfl rfl (by omega) (by omega)) rfl (lt_y (y_shl1I rfl rfl (by omega) (by omega)) rfl (lt_y (y_load1 Tryz.isAgg3 rfl rfl) rfl (lt_y (y_fa fa60_5 rfl) rfl (lt_y (y_shl1I rfl rfl (by omega) (by omega)) rfl (lt_y (y_load1 Tryz.isAgg3 rfl rfl) rfl (lt_y (y_fa fa60_4 rfl) rfl (lt_y (y_loadSN Tryz.isAgg26 Tryz.sizeOf26 rfl) rfl (lt_y (y_fa0 fa49_0 rfl) rfl (lt_y (y_nil rfl) rfl (lt_y (y_move rfl) rfl (lt_nil))))))))))))))))) ?_
  refine pl_end (by kernel_rfl) ?_
  exact ej_end0 rfl Tryz.results82 (fun w' hp => ⟨by rw [← hasN_bit]; unfold reachC; rw [hpT]; rfl, hp.below⟩)

set_option maxHeartbeats 1000000 in
theorem k_put0 (s : StrV) (st : LogV) (c : CarryV) (uu : Nat) (b m : Nat) (w : World) (hs : StrRd w s) (hb : strB s.s = true) (hlg : (logB1 b s m st).P w) (hl : Len st) (hr : 0 ≤ c.to_ ∧ c.to_ < s.rooms.length) (hu : uu ≤ 15) : Calls Tryz.prog 83 #[.pointer (some ⟨b, 0, none⟩), .agg #[.int .i64 c.day, .int .i64 c.kind, .int .i64 c.bag, .int .i64 c.to_, .int .i64 c.by_, .int .i64 c.with_, .int .i64 c.mark, .int .i64 c.suits], .int .i64 (uu : Nat)] w (fun e w' => e = endP (decide (putE s.s st c uu = 0)) (.tuple #[]) (chP (putE s.s st c uu)) ∧ Grow w w') := by
  have hro := roomAt_ok hb hr.1 hr.2
  obtain ⟨hro, hro1, hro2, hro3, hro4⟩ := hro
  have hb32 := hl.b
  have hbl := bags_len hl
  have hp3 := pow_bd (k := (roomAt s.s c.to_).climate.toNat) (n := 6) (by omega) (by omega)
  refine enter_pure (args := [.pointer (some ⟨b, 0, none⟩), .agg #[.int .i64 c.day, .int .i64 c.kind, .int .i64 c.bag, .int .i64 c.to_, .int .i64 c.by_, .int .i64 c.with_, .int .i64 c.mark, .int .i64 c.suits], .int .i64 (uu : Nat)]) [sl (fun b => b < w.heap.size) 3 encRo s.Ar s.rooms, sl (fun b => b < w.heap.size) 4 encGa s.Ag s.gates, sl (fun b => b < w.heap.size) 1 enInt s.As s.staff, logB1 b s m st] Tryz.func83 rfl (by rw [Tryz.ntmps83]; simp) (fun f hf => by
    simp only [List.mem_cons, List.mem_nil_iff, or_false] at hf
    rcases hf with rfl | rfl | rfl | rfl
    · exact ⟨hs.rooms, fun _ h => h⟩
    · exact ⟨hs.gates, fun _ h => h⟩
    · exact ⟨hs.staff, fun _ h => h⟩
    · exact ⟨hlg, fun i hi => by have : i = b := hi; subst this; exact (Array.getElem?_eq_some_iff.1 hlg).1⟩) ?_
  refine cj_seq (cj_region ?_)
  refine oj_box rfl rfl rfl (fun b4 => ?_)
  refine oj_nil ?_
  refine ej_th (cj_seq ?_)
  refine cj_regionG (gj_step (y_assign rfl) rfl rfl rfl (gj_nil ?_))
  refine ej_th (cj_seq (cj_seq ?_))
  refine cj_regionG (gj_step (y_move rfl) rfl rfl rfl (gj_step (y_nil rfl) rfl rfl rfl (gj_step (y_fa fa49_1 rfl) rfl rfl rfl (gj_step (y_loadSN (hv := tk_bags hl) Tryz.isAgg31 Tryz.sizeOf31 rfl) rfl rfl rfl (gj_step (y_move rfl) rfl rfl rfl (gj_nil ?_))))))
  refine ej_th (cj_block ?_)
  refine cj_lpic (X := Nat) [(0, _), (2, _), (4, _), (12, _)] (fun k => k ≤ 32) (fun k => [(6, .int .i64 (manyN (st.bags.take k) c.to_ : Nat)), (13, .int .i64 (k : Nat))]) (fun k => 32 - k) 0 (Nat.zero_le _) ⟨rfl, rfl, rfl, rfl, rfl, rfl, trivial⟩ ?_
  rintro k hk
  dsimp only [List.cons_append, List.nil_append]
  refine cj_seq ?_
  refine cj_regionG (gj_step (y_lss rfl rfl) rfl rfl rfl (gj_nil ?_))
  refine ej_th (cj_seq ?_)
  refine cj_cond rfl (fun h14 => ?_) (fun h14 => ?_)
  · have h14b := h14
    try simp only [sxb] at h14
    obtain ⟨bk, hbk⟩ : ∃ bk, st.bags[k]? = some bk := ⟨_, List.getElem?_eq_getElem (by omega)⟩
    have hms := many_step c.to_ hbk
    have hml : manyN (st.bags.take k) c.to_ ≤ 32 := Nat.le_trans List.countP_le_length (by rw [List.length_take]; omega)
    refine cj_skip (ej_th (cj_seq (cj_block (cj_seq (cj_region ?_)))))
    refine oj_step (y_indexAN Tryz.underlying31 Tryz.sizeOf30 Tryz.isAgg30 rfl rfl ⟨by omega, by omega⟩ (tk_bag (i := k) hbk)) rfl rfl rfl ?_
    refine oj_alloc Tryz.zeroValue30 rfl rfl (fun b8 => ?_)
    refine oj_store rfl rfl rfl rfl Tryz.sizeOf30 rfl ?_
    refine oj_nil ?_
    refine ej_th (cj_seq ?_)
    refine cj_regionG (gj_step (y_fa0 fa30_0 rfl) rfl rfl rfl (gj_step (y_load1 Tryz.isAgg3 rfl rfl) rfl rfl rfl (gj_step (y_fa fa60_3 rfl) rfl rfl rfl (gj_step (y_load1 Tryz.isAgg3 rfl rfl) rfl rfl rfl (gj_step (y_eql rfl rfl) rfl rfl rfl (gj_nil ?_))))))
    refine ej_th ?_
    refine cj_cond rfl (fun h20 => ?_) (fun h20 => ?_)
    · have h20b := h20
      try simp only [sxb] at h20
      refine cj_regionG (gj_step (y_move rfl) rfl rfl rfl (gj_step (y_add rfl rfl (by omega)) rfl rfl rfl (gj_step (y_assign rfl) rfl rfl rfl (gj_nil ?_))))
      refine ej_blk (ej_th ?_)
      refine cj_regionG (gj_step (y_add rfl rfl (by omega)) rfl rfl rfl (gj_step (y_move rfl) rfl rfl rfl (gj_nil ?_)))
      rw [if_pos h20] at hms
      rw [show ((manyN (st.bags.take k) c.to_ : Nat) : Int) + 1 = ((manyN (st.bags.take (k + 1)) c.to_ : Nat) : Int) by omega]
      exact ej_nx (k + 1) (by omega) (by omega) ⟨rfl, rfl, rfl, rfl, rfl, rfl, trivial⟩
    · have h20b := h20
      try simp only [sxb] at h20
      refine cj_skip (ej_blk (ej_th ?_))
      refine cj_regionG (gj_step (y_add rfl rfl (by omega)) rfl rfl rfl (gj_step (y_move rfl) rfl rfl rfl (gj_nil ?_)))
      rw [if_neg h20] at hms
      rw [show ((manyN (st.bags.take k) c.to_ : Nat) : Int) = ((manyN (st.bags.take (k + 1)) c.to_ : Nat) : Int) by omega]
      exact ej_nx (k + 1) (by omega) (by omega) ⟨rfl, rfl, rfl, rfl, rfl, rfl, trivial⟩
  · have h14b := h14
    try simp only [sxb] at h14
    have hmz : manyN (st.bags.take k) c.to_ = manyN st.bags c.to_ := by rw [List.take_of_length_le (by omega)]
    refine cj_exit (ej_then_exit (ej_then_exit (ej_blk_hit (ej_th (cj_seq ?_)))))
    refine cj_plan 13 (by kernel_rfl) (by kernel_rfl) ?_
    refine pl_y 0 rfl (y_move rfl) rfl rfl rfl rfl (by kernel_rfl) ?_
    refine pl_y 1 rfl (y_move rfl) rfl rfl rfl rfl (by kernel_rfl) ?_
    refine pl_y 2 rfl (y_nil rfl) rfl rfl rfl rfl (by kernel_rfl) ?_
    refine pl_y 3 rfl (y_fa0 fa49_0 rfl) rfl rfl rfl rfl (by kernel_rfl) ?_
    refine pl_y 4 rfl (y_fa0 fa26_0 rfl) rfl rfl rfl rfl (by kernel_rfl) ?_
    refine pl_y 5 rfl (y_loadS1 Tryz.isAgg22 rfl rfl) rfl rfl rfl rfl (by kernel_rfl) ?_
    refine pl_y 6 rfl (y_fa fa60_3 rfl) rfl rfl rfl rfl (by kernel_rfl) ?_
    refine pl_y 7 rfl (y_load1 Tryz.isAgg3 rfl rfl) rfl rfl rfl rfl (by kernel_rfl) ?_
    refine pl_y 8 rfl (y_ixR (reads_sl) Tryz.underlying22 Tryz.sizeOf73 rfl rfl (⟨by omega, by omega⟩)) rfl rfl rfl rfl (by kernel_rfl) ?_
    refine pl_y 9 rfl (y_faE fa73_0 rfl) rfl rfl rfl rfl (by kernel_rfl) ?_
    refine pl_y 10 rfl (y_ld1 (reads_sl) Tryz.isAgg3 rfl (hro) rfl) rfl rfl rfl rfl (by kernel_rfl) ?_
    refine pl_y 11 rfl (y_lss rfl rfl) rfl rfl rfl rfl (by kernel_rfl) ?_
    refine pl_w1 12 (by kernel_rfl) rfl rfl (pl_fire rfl rfl rfl (by kernel_rfl) ?_)
    refine oj_callP Tryz.call81 rfl (fun w1 hp => k_need _ _ w1) rfl (fun hpF => ?_) (fun hpT => ?_)
    · repeat (first | with_reducible refine ej_then_pan ?_ | with_reducible refine ej_blk_pan ?_ | with_reducible refine ej_noGoto_pan ?_ | with_reducible refine ej_np_pan ?_)
      have hE : putE s.s st c uu = 46 := by
        unfold putE
        rw [if_neg]
        rw [← hmz]; simpa using hpF
      exact ej_pan rfl (fun w2 hp => ⟨by rw [hE]; rfl, hp.below⟩)
    have hm36 : (manyN st.bags c.to_ : Int) < (roomAt s.s c.to_).hold := by rw [← hmz]; simpa using hpT
    refine oj_nil ?_
    refine ej_pl (lt_w (by kernel_rfl) (lt_y (y_ld1 (reads_sl) Tryz.isAgg3 rfl (hro) rfl) rfl (lt_y (y_faE fa73_0 rfl) rfl (lt_y (y_ixR (reads_sl) Tryz.underlying22 Tryz.sizeOf73 rfl rfl (⟨by omega, by omega⟩)) rfl (lt_y (y_load1 Tryz.isAgg3 rfl rfl) rfl (lt_y (y_fa fa60_3 rfl) rfl (lt_y (y_loadS1 Tryz.isAgg22 rfl rfl) rfl (lt_y (y_fa0 fa26_0 rfl) rfl (lt_y (y_fa0 fa49_0 rfl) rfl (lt_y (y_nil rfl) rfl (lt_y (y_move rfl) rfl (lt_y (y_move rfl) rfl (lt_nil))))))))))))) ?_
    refine pl_end (by kernel_rfl) ?_
    refine ej_th ?_
    refine cj_plan 14 (by kernel_rfl) (by kernel_rfl) ?_
    refine pl_y 0 rfl (y_move rfl) rfl rfl rfl rfl (by kernel_rfl) ?_
    refine pl_y 1 rfl (y_move rfl) rfl rfl rfl rfl (by kernel_rfl) ?_
    refine pl_y 2 rfl (y_nil rfl) rfl rfl rfl rfl (by kernel_rfl) ?_
    refine pl_y 3 rfl (y_fa0 fa49_0 rfl) rfl rfl rfl rfl (by kernel_rfl) ?_
    refine pl_y 4 rfl (y_fa0 fa26_0 rfl) rfl rfl rfl rfl (by kernel_rfl) ?_
    refine pl_y 5 rfl (y_loadS1 Tryz.isAgg22 rfl rfl) rfl rfl rfl rfl (by kernel_rfl) ?_
    refine pl_y 6 rfl (y_fa fa60_3 rfl) rfl rfl rfl rfl (by kernel_rfl) ?_
    refine pl_y 7 rfl (y_load1 Tryz.isAgg3 rfl rfl) rfl rfl rfl rfl (by kernel_rfl) ?_
    refine pl_y 8 rfl (y_ixR (reads_sl) Tryz.underlying22 Tryz.sizeOf73 rfl rfl (⟨by omega, by omega⟩)) rfl rfl rfl rfl (by kernel_rfl) ?_
    refine pl_y 9 rfl (y_faE fa73_1 rfl) rfl rfl rfl rfl (by kernel_rfl) ?_
    refine pl_y 10 rfl (y_ld1 (reads_sl) Tryz.isAgg3 rfl (hro) rfl) rfl rfl rfl rfl (by kernel_rfl) ?_
    refine pl_y 11 rfl (y_shl1I rfl rfl (by omega) (by omega)) rfl rfl rfl rfl (by kernel_rfl) ?_
    refine pl_y 12 rfl (y_call Tryz.call48 rfl (fun w hp => k_has uu (2 ^ (roomAt s.s c.to_).climate.toNat) w (by omega) (by omega))) rfl rfl rfl rfl (by kernel_rfl) ?_
    refine pl_w1 13 (by kernel_rfl) rfl rfl (pl_fire rfl rfl rfl (by kernel_rfl) ?_)
    refine oj_callP Tryz.call81 rfl (fun w1 hp => k_need _ _ w1) rfl (fun hpF => ?_) (fun hpT => ?_)
    · repeat (first | with_reducible refine ej_then_pan ?_ | with_reducible refine ej_blk_pan ?_ | with_reducible refine ej_noGoto_pan ?_ | with_reducible refine ej_np_pan ?_)
      have hE : putE s.s st c uu = 47 := by
        unfold putE
        rw [if_pos hm36, Int.toNat_natCast, ← hasN_bit, hpF]; rfl
      exact ej_pan rfl (fun w2 hp => ⟨by rw [hE]; rfl, hp.below⟩)
    refine oj_nil ?_
    refine ej_pl (lt_w (by kernel_rfl) (lt_y (y_shl1I rfl rfl (by omega) (by omega)) rfl (lt_y (y_ld1 (reads_sl) Tryz.isAgg3 rfl (hro) rfl) rfl (lt_y (y_faE fa73_1 rfl) rfl (lt_y (y_ixR (reads_sl) Tryz.underlying22 Tryz.sizeOf73 rfl rfl (⟨by omega, by omega⟩)) rfl (lt_y (y_load1 Tryz.isAgg3 rfl rfl) rfl (lt_y (y_fa fa60_3 rfl) rfl (lt_y (y_loadS1 Tryz.isAgg22 rfl rfl) rfl (lt_y (y_fa0 fa26_0 rfl) rfl (lt_y (y_fa0 fa49_0 rfl) rfl (lt_y (y_nil rfl) rfl (lt_y (y_move rfl) rfl (lt_y (y_move rfl) rfl (lt_nil)))))))))))))) ?_
    refine pl_end (by kernel_rfl) ?_
    have hE : putE s.s st c uu = 0 := by
      unfold putE
      rw [if_pos hm36, Int.toNat_natCast, ← hasN_bit, hpT]; rfl
    exact ej_end0 rfl Tryz.results83 (fun w' hp => ⟨by rw [hE]; rfl, hp.below⟩)

theorem k_put (s : StrV) (st : LogV) (c : CarryV) (u : Int) (b m : Nat) (w : World) (hs : StrRd w s) (hb : strB s.s = true) (hlg : (logB1 b s m st).P w) (hl : Len st) (hr : 0 ≤ c.to_ ∧ c.to_ < s.rooms.length) (hu : 0 ≤ u ∧ u ≤ 15) : Calls Tryz.prog 83 #[.pointer (some ⟨b, 0, none⟩), .agg #[.int .i64 c.day, .int .i64 c.kind, .int .i64 c.bag, .int .i64 c.to_, .int .i64 c.by_, .int .i64 c.with_, .int .i64 c.mark, .int .i64 c.suits], .int .i64 u] w (fun e w' => e = endP (decide (putE s.s st c u = 0)) (.tuple #[]) (chP (putE s.s st c u)) ∧ Grow w w') := by
  obtain ⟨uu, rfl⟩ : ∃ uu : Nat, u = uu := ⟨u.toNat, by omega⟩
  exact k_put0 s st c uu b m w hs hb hlg hl hr (by omega)

end Go.Proofs.YtomidcehahdmbaaGreat
namespace Go.Proofs.YtomidcehahdmbaaGreat
open Go.Sx Go.RowKit Vm
set_option maxRecDepth 20000
set_option maxHeartbeats 1000000 in
theorem k_lies (s : StrV) (st : LogV) (c : CarryV) (b m : Nat) (w : World) (hs : StrRd w s) (hb : strB s.s = true) (hc : COk s.s c) (hlg : (logB1 b s m st).P w) (hI : Inv s.s st) : Calls Tryz.prog 85 #[.pointer (some ⟨b, 0, none⟩), .agg #[.int .i64 c.day, .int .i64 c.kind, .int .i64 c.bag, .int .i64 c.to_, .int .i64 c.by_, .int .i64 c.with_, .int .i64 c.mark, .int .i64 c.suits]] w (fun e w' => e = endP (decide (lieE s.s st c = 0)) (.pointer (some ⟨b, 0 + 3 + c.bag.toNat * 5, none⟩)) (chP (lieE s.s st c)) ∧ Grow w w') := by
  have hl := inv_lens hI
  have hbg := hc.bag
  have hbn := hI.nums _ _ (bagAt_at hl hbg)
  refine enter_pure (args := [.pointer (some ⟨b, 0, none⟩), .agg #[.int .i64 c.day, .int .i64 c.kind, .int .i64 c.bag, .int .i64 c.to_, .int .i64 c.by_, .int .i64 c.with_, .int .i64 c.mark, .int .i64 c.suits]]) [logB1 b s m st] Tryz.func85 rfl (by rw [Tryz.ntmps85]; simp) (fun f hf => by
    simp only [List.mem_cons, List.mem_nil_iff, or_false] at hf
    rcases hf with rfl
    · exact ⟨hlg, fun i hi => by have : i = b := hi; subst this; exact (Array.getElem?_eq_some_iff.1 hlg).1⟩) ?_
  refine cj_seq (cj_region ?_)
  refine oj_box rfl rfl rfl (fun b3 => ?_)
  refine oj_step (y_assign rfl) rfl rfl rfl ?_
  refine oj_nil ?_
  refine ej_th (cj_seq ?_)
  refine cj_draw (by kernel_rfl) (by kernel_rfl) (gj_step (y_move rfl) rfl rfl rfl (gj_step (y_fa fa60_2 rfl) rfl rfl rfl (gj_step (y_load1 Tryz.isAgg3 rfl rfl) rfl rfl rfl (gj_step (y_nil rfl) rfl rfl rfl (gj_step (y_fa fa49_1 rfl) rfl rfl rfl (gj_step (y_ixArr Tryz.underlying31 Tryz.sizeOf30 rfl rfl (⟨by omega, by omega⟩)) rfl rfl rfl (gj_step (y_assign rfl) rfl rfl rfl (gj_nil ?_))))))))
  refine ej_th (cj_seq (cj_region ?_))
  refine oj_step (y_move rfl) rfl rfl rfl ?_
  refine oj_step (y_nil rfl) rfl rfl rfl ?_
  refine oj_step (y_fa0 fa30_0 rfl) rfl rfl rfl ?_
  refine oj_step (y_loadS1 Tryz.isAgg3 rfl (log_room hl hbg)) rfl rfl rfl ?_
  refine oj_step (y_gtr rfl rfl) rfl rfl rfl ?_
  refine oj_callP Tryz.call81 rfl (fun w1 hp => k_need _ _ w1) rfl (fun hpF => ?_) (fun hpT => ?_)
  · repeat (first | with_reducible refine ej_then_pan ?_ | with_reducible refine ej_blk_pan ?_ | with_reducible refine ej_noGoto_pan ?_ | with_reducible refine ej_np_pan ?_)
    have hE : lieE s.s st c = 44 := by
      have h9 : ¬ (0 : Int) < (bagAt st c.bag).room := by simpa using hpF
      rw [lieE, if_pos (by omega)]
    exact ej_pan rfl (fun w2 hp => ⟨by rw [hE]; rfl, hp.below⟩)
  have h17 : (0 : Int) < (bagAt st c.bag).room := by simpa using hpT
  refine oj_nil ?_
  refine ej_th (cj_seq ?_)
  refine cj_plan 7 (by kernel_rfl) (by kernel_rfl) ?_
  refine pl_y 0 rfl (y_move rfl) rfl rfl rfl rfl (by kernel_rfl) ?_
  refine pl_y 1 rfl (y_loadN Tryz.isAgg60 Tryz.sizeOf60 rfl) rfl rfl rfl rfl (by kernel_rfl) ?_
  refine pl_y 2 rfl (y_move rfl) rfl rfl rfl rfl (by kernel_rfl) ?_
  refine pl_y 3 rfl (y_nil rfl) rfl rfl rfl rfl (by kernel_rfl) ?_
  refine pl_y 4 rfl (y_fa0 fa30_0 rfl) rfl rfl rfl rfl (by kernel_rfl) ?_
  refine pl_y 5 rfl (y_loadS1 Tryz.isAgg3 rfl (log_room hl hbg)) rfl rfl rfl rfl (by kernel_rfl) ?_
  refine pl_w1 6 (by kernel_rfl) rfl rfl (pl_fire rfl rfl rfl (by kernel_rfl) ?_)
  refine oj_callP Tryz.call82 rfl (fun w1 hp => k_reaches s st c (bagAt st c.bag).room b m w1 (hs.mono hp.below) hb hc (hp.shared _ (.head _)).1 (by omega)) rfl (fun hpF => ?_) (fun hpT => ?_)
  · repeat (first | with_reducible refine ej_then_pan ?_ | with_reducible refine ej_blk_pan ?_ | with_reducible refine ej_noGoto_pan ?_ | with_reducible refine ej_np_pan ?_)
    have hE : lieE s.s st c = 45 := by
      rw [lieE, if_neg (by omega), if_neg (by rw [hpF]; simp)]
    exact ej_pan rfl (fun w2 hp => ⟨by rw [hE]; rfl, hp.below⟩)
  refine oj_nil ?_
  refine ej_pl (lt_w (by kernel_rfl) (lt_y (y_fa0 fa30_0 rfl) rfl (lt_y (y_nil rfl) rfl (lt_y (y_move rfl) rfl (lt_w (by kernel_rfl) (lt_w (by kernel_rfl) (lt_nil))))))) ?_
  refine pl_end (by kernel_rfl) ?_
  refine ej_th (cj_seq ?_)
  refine cj_regionG (gj_step (y_move rfl) rfl rfl rfl (gj_step (y_assign rfl) rfl rfl rfl (gj_nil ?_)))
  refine ej_th (cj_ret ?_)
  have hE : lieE s.s st c = 0 := by
    rw [lieE, if_neg (by omega), if_pos hpT]
  exact ej_ret1 rfl Tryz.results85 rfl (fun w' hp => ⟨by rw [hE]; rfl, hp.below⟩)

set_option maxHeartbeats 1000000 in
theorem k_seal (s : StrV) (st : LogV) (n : Int) (b m : Nat) (w : World) (hl : Len st) (hO : ∀ f ∈ (lgF b m s st), f.P w ∧ ∀ b, f.fp b → b < w.heap.size) (hap : (lgF b m s st).Pairwise (fun f g => ∀ b, f.fp b → ¬ g.fp b)) : Calls Tryz.prog 84 #[.pointer (some ⟨b, 0, none⟩), .int .i64 n] w (fun e w' => (∃ _ : Unit, sealE st n = 0 ∧ e = .returned (.tuple #[]) ∧ Giv (lgF b m s st) w w' (lgF b m s (addS st n))) ∨ (∃ _ : Unit, sealE st n ≠ 0 ∧ e = .panicked (chP (sealE st n)) ∧ Giv (lgF b m s st) w w' (lgF b m s st))) := by
  refine enterO (args := [.pointer (some ⟨b, 0, none⟩), .int .i64 n]) (lgF b m s st) [] Tryz.func84 rfl (by rw [Tryz.ntmps84]; simp) hO hap (fun _ h => by cases h) ?_
  refine cj_seq (cj_region ?_)
  refine oj_step (y_move rfl) rfl rfl rfl ?_
  refine oj_step (y_nil rfl) rfl rfl rfl ?_
  refine oj_step (y_fa fa49_3 rfl) rfl rfl rfl ?_
  refine oj_step (y_load1 Tryz.isAgg46 rfl (log_seals hl)) rfl rfl rfl ?_
  refine oj_step (y_move rfl) rfl rfl rfl ?_
  refine oj_step (y_lookup1 (ek := ekI) (ev := evB) (kk := n) false Tryz.underlying46 Tryz.underlying3 Tryz.zeroValue4 rfl rfl) rfl rfl rfl ?_
  refine oj_step (y_not rfl) rfl rfl rfl ?_
  refine oj_callP Tryz.call81 rfl (fun w1 hp => k_need _ _ w1) rfl (fun hpF => ?_) (fun hpT => ?_)
  · repeat (first | with_reducible refine ej_then_pan ?_ | with_reducible refine ej_blk_pan ?_ | with_reducible refine ej_noGoto_pan ?_ | with_reducible refine ej_np_pan ?_)
    rw [seal_get] at hpF
    have hE : sealE st n = 48 := by rw [sealE, if_pos (not_f hpF)]
    exact ej_pan rfl (fun w2 hp => .inr ⟨(), by omega, by rw [hE], hp.givT [logB1 b s m st, mp ekI evB m (sealL st.seals)]⟩)
  rw [seal_get] at hpT
  have hE : sealE st n = 0 := by rw [sealE, if_neg (by rw [not_t hpT]; simp)]
  refine oj_nil ?_
  refine ej_th (cj_region ?_)
  refine oj_step (y_move rfl) rfl rfl rfl ?_
  refine oj_step (y_nil rfl) rfl rfl rfl ?_
  refine oj_step (y_fa fa49_3 rfl) rfl rfl rfl ?_
  refine oj_step (y_load1 Tryz.isAgg46 rfl (log_seals hl)) rfl rfl rfl ?_
  refine oj_step (y_move rfl) rfl rfl rfl ?_
  refine oj_mapUpdate (ek := ekI) (ev := evB) (l := sealL st.seals) (kk := n) (v := true) Tryz.underlying46 Tryz.underlying3 rfl rfl rfl ?_
  rw [seal_put (not_t hpT)]
  refine oj_nil ?_
  exact ej_end0 rfl Tryz.results84 (fun w' hp => .inl ⟨(), hE, rfl, hp.givT [logB1 b s m st, mp ekI evB m (sealL (st.seals ++ [n]))]⟩)

end Go.Proofs.YtomidcehahdmbaaGreat
namespace Go.Proofs.YtomidcehahdmbaaGreat
open Go.Sx Go.RowKit Vm
set_option maxRecDepth 20000
set_option maxHeartbeats 1000000 in
theorem k_in (s : StrV) (st : LogV) (c : CarryV) (b m : Nat) (fp : Nat → Prop) (w : World) (hb : strB s.s = true) (hc : COk s.s c) (hI : Inv s.s st) (hk : c.kind = 1) (hO : ∀ f ∈ (lgF b m s st), f.P w ∧ ∀ b, f.fp b → b < w.heap.size) (hap : (lgF b m s st).Pairwise (fun f g => ∀ b, f.fp b → ¬ g.fp b)) (hS : ∀ g ∈ [strF fp s], g.P w ∧ ∀ i, g.fp i → i < w.heap.size ∧ ∀ f ∈ (lgF b m s st), ¬ f.fp i) : Calls Tryz.prog 66 #[.pointer (some ⟨b, 0, none⟩), .agg #[.int .i64 c.day, .int .i64 c.kind, .int .i64 c.bag, .int .i64 c.to_, .int .i64 c.by_, .int .i64 c.with_, .int .i64 c.mark, .int .i64 c.suits]] w (fun e w' => (∃ _ : Unit, stepE s.s st c = 0 ∧ e = .returned (.tuple #[]) ∧ Giv (lgF b m s st) w w' (lgF b m s (stepM st c))) ∨ (∃ _ : Unit, stepE s.s st c ≠ 0 ∧ e = .panicked (chP (stepE s.s st c)) ∧ Giv (lgF b m s st) w w' (lgF b m s st))) := by
  have hl := inv_lens hI
  have hbg := hc.bag
  have hsr : s.s.rooms.length = s.rooms.length := rfl
  have hrl := (StrOk.of hb).nr
  have hbn := hI.nums _ _ (bagAt_at hl hbg)
  refine enterO (args := [.pointer (some ⟨b, 0, none⟩), .agg #[.int .i64 c.day, .int .i64 c.kind, .int .i64 c.bag, .int .i64 c.to_, .int .i64 c.by_, .int .i64 c.with_, .int .i64 c.mark, .int .i64 c.suits]]) (lgF b m s st) [strF fp s] Tryz.func66 rfl (by rw [Tryz.ntmps66]; simp) hO hap hS ?_
  refine cj_seq (cj_region ?_)
  refine oj_box rfl rfl rfl (fun b3 => ?_)
  refine oj_nil ?_
  refine ej_th (cj_seq ?_)
  refine cj_plan 9 (by kernel_rfl) (by kernel_rfl) ?_
  refine pl_y 0 rfl (y_move rfl) rfl rfl rfl rfl (by kernel_rfl) ?_
  refine pl_y 1 rfl (y_fa fa60_2 rfl) rfl rfl rfl rfl (by kernel_rfl) ?_
  refine pl_y 2 rfl (y_load1 Tryz.isAgg3 rfl rfl) rfl rfl rfl rfl (by kernel_rfl) ?_
  refine pl_y 3 rfl (y_nil rfl) rfl rfl rfl rfl (by kernel_rfl) ?_
  refine pl_y 4 rfl (y_fa fa49_2 rfl) rfl rfl rfl rfl (by kernel_rfl) ?_
  refine pl_y 5 rfl (y_ixArr Tryz.underlying47 Tryz.sizeOf4 rfl rfl (by omega)) rfl rfl rfl rfl (by kernel_rfl) ?_
  refine pl_y 6 rfl (y_load1 Tryz.isAgg4 rfl (log_there hl hbg)) rfl rfl rfl rfl (by kernel_rfl) ?_
  refine pl_y 7 rfl (y_not rfl) rfl rfl rfl rfl (by kernel_rfl) ?_
  refine pl_w1 8 (by kernel_rfl) rfl rfl (pl_fire rfl rfl rfl (by kernel_rfl) ?_)
  refine oj_callP Tryz.call81 rfl (fun w1 hp => k_need _ _ w1) rfl (fun hpF => ?_) (fun hpT => ?_)
  · repeat (first | with_reducible refine ej_then_pan ?_ | with_reducible refine ej_blk_pan ?_ | with_reducible refine ej_noGoto_pan ?_ | with_reducible refine ej_np_pan ?_)
    have hE : stepE s.s st c = 44 := by rw [stepE, if_pos hk, if_pos (not_f hpF)]
    exact ej_pan rfl (fun w2 hp => .inr ⟨(), by rw [hE]; decide, by rw [hE], hp.givT [logB1 b s m st, mp ekI evB m (sealL st.seals)]⟩)
  have h12 : ¬ st.there.getD c.bag.toNat false = true := by rw [not_t hpT]; simp
  have hto := hc.to1 (.inl hk)
  have hsu := hc.suits hk
  refine oj_nil ?_
  refine ej_pl (lt_w (by kernel_rfl) (lt_y (y_load1 Tryz.isAgg4 rfl (log_there hl hbg)) rfl (lt_y (y_ixArr Tryz.underlying47 Tryz.sizeOf4 rfl rfl (by omega)) rfl (lt_y (y_fa fa49_2 rfl) rfl (lt_y (y_nil rfl) rfl (lt_y (y_load1 Tryz.isAgg3 rfl rfl) rfl (lt_y (y_fa fa60_2 rfl) rfl (lt_y (y_move rfl) rfl (lt_nil))))))))) ?_
  refine pl_end (by kernel_rfl) ?_
  refine ej_th (cj_seq (cj_region ?_))
  refine oj_step (y_move rfl) rfl rfl rfl ?_
  refine oj_step (y_loadN Tryz.isAgg60 Tryz.sizeOf60 rfl) rfl rfl rfl ?_
  refine oj_step (y_fa fa60_3 rfl) rfl rfl rfl ?_
  refine oj_step (y_load1 Tryz.isAgg3 rfl rfl) rfl rfl rfl ?_
  refine oj_callP Tryz.call82 rfl (fun w1 hp => k_reaches s st c c.to_ b m w1 (str_rd hp (.head _)) hb hc hp.own1 (by omega)) rfl (fun hpF => ?_) (fun hpT => ?_)
  · repeat (first | with_reducible refine ej_then_pan ?_ | with_reducible refine ej_blk_pan ?_ | with_reducible refine ej_noGoto_pan ?_ | with_reducible refine ej_np_pan ?_)
    have hE : stepE s.s st c = 45 := by rw [stepE, if_pos hk, if_neg h12, if_neg (by rw [hpF]; simp)]
    exact ej_pan rfl (fun w2 hp => .inr ⟨(), by rw [hE]; decide, by rw [hE], hp.givT [logB1 b s m st, mp ekI evB m (sealL st.seals)]⟩)
  have h17 := hpT
  refine oj_nil ?_
  refine ej_th (cj_seq (cj_region ?_))
  refine oj_step (y_move rfl) rfl rfl rfl ?_
  refine oj_step (y_loadN Tryz.isAgg60 Tryz.sizeOf60 rfl) rfl rfl rfl ?_
  refine oj_step (y_fa fa60_7 rfl) rfl rfl rfl ?_
  refine oj_step (y_load1 Tryz.isAgg3 rfl rfl) rfl rfl rfl ?_
  refine oj_callP Tryz.call83 rfl (fun w1 hp => k_put s st c c.suits b m w1 (str_rd hp (.head _)) hb hp.own1 hl (by omega) (by omega)) rfl (fun hpF => ?_) (fun hpT => ?_)
  · repeat (first | with_reducible refine ej_then_pan ?_ | with_reducible refine ej_blk_pan ?_ | with_reducible refine ej_noGoto_pan ?_ | with_reducible refine ej_np_pan ?_)
    have hE : stepE s.s st c = putE s.s st c c.suits := by rw [stepE, if_pos hk, if_neg h12, if_pos h17, if_neg (of_decide_eq_false hpF)]
    exact ej_pan rfl (fun w2 hp => .inr ⟨(), by rw [hE]; exact of_decide_eq_false hpF, by rw [hE], hp.givT [logB1 b s m st, mp ekI evB m (sealL st.seals)]⟩)
  have h22 := of_decide_eq_true hpT
  refine oj_nil ?_
  refine ej_th (cj_seq (cj_region ?_))
  refine oj_step (y_move rfl) rfl rfl rfl ?_
  refine oj_step (y_fa fa60_6 rfl) rfl rfl rfl ?_
  refine oj_step (y_load1 Tryz.isAgg3 rfl rfl) rfl rfl rfl ?_
  refine oj_callLP (X := Unit) (Y := Unit) (fun _ => .tuple #[]) (fun _ => chP (sealE st c.mark)) (fun _ => sealE st c.mark = 0) (fun _ => sealE st c.mark ≠ 0) (lgF b m s st) (fun _ => (lgF b m s (addS st c.mark))) (fun _ => (lgF b m s st)) Tryz.call84 rfl rfl (fun w1 hp => by
    obtain ⟨q1, q2, q3⟩ := hp.ownL (Os := (lgF b m s st)) inferInstance
    exact k_seal s st c.mark b m w1 hl q1 q2) rfl (fun _ hsF => ?_) (fun _ hsT => ?_)
  · dsimp only [lgF, List.cons_append, List.nil_append]
    repeat (first | with_reducible refine ej_then_pan ?_ | with_reducible refine ej_blk_pan ?_ | with_reducible refine ej_noGoto_pan ?_ | with_reducible refine ej_np_pan ?_)
    have hE : stepE s.s st c = sealE st c.mark := by rw [stepE, if_pos hk, if_neg h12, if_pos h17, if_pos h22]; rfl
    exact ej_pan rfl (fun w2 hp => .inr ⟨(), by rw [hE]; exact hsF, by rw [hE], hp.givT [logB1 b s m st, mp ekI evB m (sealL st.seals)]⟩)
  dsimp only [lgF, List.cons_append, List.nil_append]
  refine oj_nil ?_
  refine ej_th (cj_seq ?_)
  refine cj_plan 7 (by kernel_rfl) (by kernel_rfl) ?_
  refine pl_y 0 rfl (y_move rfl) rfl rfl rfl rfl (by kernel_rfl) ?_
  refine pl_y 1 rfl (y_fa fa60_2 rfl) rfl rfl rfl rfl (by kernel_rfl) ?_
  refine pl_y 2 rfl (y_load1 Tryz.isAgg3 rfl rfl) rfl rfl rfl rfl (by kernel_rfl) ?_
  refine pl_y 3 rfl (y_nil rfl) rfl rfl rfl rfl (by kernel_rfl) ?_
  refine pl_y 4 rfl (y_fa fa49_2 rfl) rfl rfl rfl rfl (by kernel_rfl) ?_
  refine pl_y 5 rfl (y_ixArr Tryz.underlying47 Tryz.sizeOf4 rfl rfl (by omega)) rfl rfl rfl rfl (by kernel_rfl) ?_
  refine pl_w1 6 (by kernel_rfl) rfl rfl (pl_fire rfl rfl rfl (by kernel_rfl) ?_)
  refine oj_store (vs := [.bool true]) (n := 1) (hset := set_there (st := addS st c.mark) (hl.addS _) hbg) rfl rfl rfl rfl Tryz.sizeOf4 rfl ?_
  refine oj_nil ?_
  refine ej_pl (lt_w (by kernel_rfl) (lt_y (y_fa fa49_2 rfl) rfl (lt_y (y_nil rfl) rfl (lt_w (by kernel_rfl) (lt_w (by kernel_rfl) (lt_w (by kernel_rfl) (lt_nil))))))) ?_
  refine pl_end (by kernel_rfl) ?_
  refine ej_th ?_
  refine cj_plan 14 (by kernel_rfl) (by kernel_rfl) ?_
  refine pl_y 0 rfl (y_move rfl) rfl rfl rfl rfl (by kernel_rfl) ?_
  refine pl_y 1 rfl (y_fa fa60_2 rfl) rfl rfl rfl rfl (by kernel_rfl) ?_
  refine pl_y 2 rfl (y_load1 Tryz.isAgg3 rfl rfl) rfl rfl rfl rfl (by kernel_rfl) ?_
  refine pl_y 3 rfl (y_fa fa60_3 rfl) rfl rfl rfl rfl (by kernel_rfl) ?_
  refine pl_y 4 rfl (y_load1 Tryz.isAgg3 rfl rfl) rfl rfl rfl rfl (by kernel_rfl) ?_
  refine pl_y 5 rfl (y_fa fa60_6 rfl) rfl rfl rfl rfl (by kernel_rfl) ?_
  refine pl_y 6 rfl (y_load1 Tryz.isAgg3 rfl rfl) rfl rfl rfl rfl (by kernel_rfl) ?_
  refine pl_y 7 rfl (y_fa fa60_7 rfl) rfl rfl rfl rfl (by kernel_rfl) ?_
  refine pl_y 8 rfl (y_load1 Tryz.isAgg3 rfl rfl) rfl rfl rfl rfl (by kernel_rfl) ?_
  refine pl_y 9 rfl (y_build (cs := [.int .i64 c.to_, .int .i64 c.mark, .int .i64 c.suits, .int .i64 0, .int .i64 0]) st30 rfl (by kernel_rfl)) rfl rfl rfl rfl (by kernel_rfl) ?_
  refine pl_y 10 rfl (y_nil rfl) rfl rfl rfl rfl (by kernel_rfl) ?_
  refine pl_y 11 rfl (y_fa fa49_1 rfl) rfl rfl rfl rfl (by kernel_rfl) ?_
  refine pl_y 12 rfl (y_ixArr Tryz.underlying31 Tryz.sizeOf30 rfl rfl (by omega)) rfl rfl rfl rfl (by kernel_rfl) ?_
  refine pl_w1 13 (by kernel_rfl) rfl rfl (pl_fire rfl rfl rfl (by kernel_rfl) ?_)
  refine oj_store (vs := encBa ⟨c.to_, c.mark, c.suits, 0, 0⟩) (n := 5) (hset := set_bag (st := setT (addS st c.mark) c.bag) (u := ⟨c.to_, c.mark, c.suits, 0, 0⟩) ((hl.addS _).setT _) hbg [] [] (encBa (bagAt (setT (addS st c.mark) c.bag) c.bag)) (encBa ⟨c.to_, c.mark, c.suits, 0, 0⟩) rfl rfl rfl rfl) rfl rfl rfl rfl Tryz.sizeOf30 rfl ?_
  refine oj_nil ?_
  refine ej_pl (lt_w (by kernel_rfl) (lt_y (y_fa fa49_1 rfl) rfl (lt_y (y_nil rfl) rfl (lt_w (by kernel_rfl) (lt_w (by kernel_rfl) (lt_w (by kernel_rfl) (lt_w (by kernel_rfl) (lt_w (by kernel_rfl) (lt_w (by kernel_rfl) (lt_w (by kernel_rfl) (lt_w (by kernel_rfl) (lt_w (by kernel_rfl) (lt_w (by kernel_rfl) (lt_nil)))))))))))))) ?_
  refine pl_end (by kernel_rfl) ?_
  have hE : stepE s.s st c = 0 := by rw [stepE, if_pos hk, if_neg h12, if_pos h17, if_pos h22]; exact hsT
  exact ej_end0 rfl Tryz.results66 (fun w' hp => .inl ⟨(), hE, rfl, by
    have h9 := hp.givT [logB1 b s m (setB (setT (addS st c.mark) c.bag) c.bag ⟨c.to_, c.mark, c.suits, 0, 0⟩), mp ekI evB m (sealL ((addS st c.mark).seals))]
    rw [stepM, if_pos hk]
    exact h9⟩)

set_option maxHeartbeats 1000000 in
theorem k_move (s : StrV) (st : LogV) (c : CarryV) (b m : Nat) (fp : Nat → Prop) (w : World) (hb : strB s.s = true) (hc : COk s.s c) (hI : Inv s.s st) (hk : c.kind = 2) (hO : ∀ f ∈ (lgF b m s st), f.P w ∧ ∀ b, f.fp b → b < w.heap.size) (hap : (lgF b m s st).Pairwise (fun f g => ∀ b, f.fp b → ¬ g.fp b)) (hS : ∀ g ∈ [strF fp s], g.P w ∧ ∀ i, g.fp i → i < w.heap.size ∧ ∀ f ∈ (lgF b m s st), ¬ f.fp i) : Calls Tryz.prog 67 #[.pointer (some ⟨b, 0, none⟩), .agg #[.int .i64 c.day, .int .i64 c.kind, .int .i64 c.bag, .int .i64 c.to_, .int .i64 c.by_, .int .i64 c.with_, .int .i64 c.mark, .int .i64 c.suits]] w (fun e w' => (∃ _ : Unit, stepE s.s st c = 0 ∧ e = .returned (.tuple #[]) ∧ Giv (lgF b m s st) w w' (lgF b m s (stepM st c))) ∨ (∃ _ : Unit, stepE s.s st c ≠ 0 ∧ e = .panicked (chP (stepE s.s st c)) ∧ Giv (lgF b m s st) w w' (lgF b m s st))) := by
  have hl := inv_lens hI
  have hbg := hc.bag
  have hsr : s.s.rooms.length = s.rooms.length := rfl
  have hrl := (StrOk.of hb).nr
  have hbn := hI.nums _ _ (bagAt_at hl hbg)
  have hk1 : c.kind ≠ 1 := by omega
  refine enterO (args := [.pointer (some ⟨b, 0, none⟩), .agg #[.int .i64 c.day, .int .i64 c.kind, .int .i64 c.bag, .int .i64 c.to_, .int .i64 c.by_, .int .i64 c.with_, .int .i64 c.mark, .int .i64 c.suits]]) (lgF b m s st) [strF fp s] Tryz.func67 rfl (by rw [Tryz.ntmps67]; simp) hO hap hS ?_
  refine cj_seq (cj_region ?_)
  refine oj_box rfl rfl rfl (fun b3 => ?_)
  refine oj_nil ?_
  refine ej_th (cj_seq (cj_region ?_))
  refine oj_step (y_move rfl) rfl rfl rfl ?_
  refine oj_step (y_loadN Tryz.isAgg60 Tryz.sizeOf60 rfl) rfl rfl rfl ?_
  refine oj_callP Tryz.call85 rfl (fun w1 hp => k_lies s st c b m w1 (str_rd hp (.head _)) hb hc hp.own1 hI) rfl (fun hpF => ?_) (fun hpT => ?_)
  · repeat (first | with_reducible refine ej_then_pan ?_ | with_reducible refine ej_blk_pan ?_ | with_reducible refine ej_noGoto_pan ?_ | with_reducible refine ej_np_pan ?_)
    have hE : stepE s.s st c = lieE s.s st c := by exact step_lie hk1 (of_decide_eq_false hpF)
    exact ej_pan rfl (fun w2 hp => .inr ⟨(), by rw [hE]; exact of_decide_eq_false hpF, by rw [hE], hp.givT [logB1 b s m st, mp ekI evB m (sealL st.seals)]⟩)
  have h0 := of_decide_eq_true hpT
  have hst := step_lie0 hk1 h0
  rw [if_pos hk] at hst
  have hto := hc.to1 (.inr hk)
  refine oj_step (y_assign rfl) rfl rfl rfl ?_
  refine oj_nil ?_
  refine ej_th (cj_seq (cj_region ?_))
  refine oj_step (y_move rfl) rfl rfl rfl ?_
  refine oj_step (y_loadN Tryz.isAgg60 Tryz.sizeOf60 rfl) rfl rfl rfl ?_
  refine oj_step (y_fa fa60_3 rfl) rfl rfl rfl ?_
  refine oj_step (y_load1 Tryz.isAgg3 rfl rfl) rfl rfl rfl ?_
  refine oj_callP Tryz.call82 rfl (fun w1 hp => k_reaches s st c c.to_ b m w1 (str_rd hp (.head _)) hb hc hp.own1 (by omega)) rfl (fun hpF => ?_) (fun hpT => ?_)
  · repeat (first | with_reducible refine ej_then_pan ?_ | with_reducible refine ej_blk_pan ?_ | with_reducible refine ej_noGoto_pan ?_ | with_reducible refine ej_np_pan ?_)
    have hE : stepE s.s st c = 45 := by rw [hst, if_neg (by rw [hpF]; simp)]
    exact ej_pan rfl (fun w2 hp => .inr ⟨(), by rw [hE]; decide, by rw [hE], hp.givT [logB1 b s m st, mp ekI evB m (sealL st.seals)]⟩)
  have h12 := hpT
  refine oj_nil ?_
  refine ej_th (cj_seq ?_)
  refine cj_plan 8 (by kernel_rfl) (by kernel_rfl) ?_
  refine pl_y 0 rfl (y_move rfl) rfl rfl rfl rfl (by kernel_rfl) ?_
  refine pl_y 1 rfl (y_nil rfl) rfl rfl rfl rfl (by kernel_rfl) ?_
  refine pl_y 2 rfl (y_fa0 fa30_0 rfl) rfl rfl rfl rfl (by kernel_rfl) ?_
  refine pl_y 3 rfl (y_load1 Tryz.isAgg3 rfl (log_room hl hbg)) rfl rfl rfl rfl (by kernel_rfl) ?_
  refine pl_y 4 rfl (y_fa fa60_3 rfl) rfl rfl rfl rfl (by kernel_rfl) ?_
  refine pl_y 5 rfl (y_load1 Tryz.isAgg3 rfl rfl) rfl rfl rfl rfl (by kernel_rfl) ?_
  refine pl_y 6 rfl (y_neq rfl rfl) rfl rfl rfl rfl (by kernel_rfl) ?_
  refine pl_w1 7 (by kernel_rfl) rfl rfl (pl_fire rfl rfl rfl (by kernel_rfl) ?_)
  refine oj_callP Tryz.call81 rfl (fun w1 hp => k_need _ _ w1) rfl (fun hpF => ?_) (fun hpT => ?_)
  · repeat (first | with_reducible refine ej_then_pan ?_ | with_reducible refine ej_blk_pan ?_ | with_reducible refine ej_noGoto_pan ?_ | with_reducible refine ej_np_pan ?_)
    have hE : stepE s.s st c = 46 := by rw [hst, if_pos h12, if_pos (by simpa using hpF)]
    exact ej_pan rfl (fun w2 hp => .inr ⟨(), by rw [hE]; decide, by rw [hE], hp.givT [logB1 b s m st, mp ekI evB m (sealL st.seals)]⟩)
  have h20 : ¬ (bagAt st c.bag).room = c.to_ := by simpa using hpT
  refine oj_nil ?_
  refine ej_pl (lt_w (by kernel_rfl) (lt_y (y_load1 Tryz.isAgg3 rfl rfl) rfl (lt_y (y_fa fa60_3 rfl) rfl (lt_y (y_load1 Tryz.isAgg3 rfl (log_room hl hbg)) rfl (lt_y (y_fa0 fa30_0 rfl) rfl (lt_y (y_nil rfl) rfl (lt_y (y_move rfl) rfl (lt_nil)))))))) ?_
  refine pl_end (by kernel_rfl) ?_
  refine ej_th (cj_seq ?_)
  refine cj_plan 7 (by kernel_rfl) (by kernel_rfl) ?_
  refine pl_y 0 rfl (y_move rfl) rfl rfl rfl rfl (by kernel_rfl) ?_
  refine pl_y 1 rfl (y_loadN Tryz.isAgg60 Tryz.sizeOf60 rfl) rfl rfl rfl rfl (by kernel_rfl) ?_
  refine pl_y 2 rfl (y_move rfl) rfl rfl rfl rfl (by kernel_rfl) ?_
  refine pl_y 3 rfl (y_nil rfl) rfl rfl rfl rfl (by kernel_rfl) ?_
  refine pl_y 4 rfl (y_fa fa30_2 rfl) rfl rfl rfl rfl (by kernel_rfl) ?_
  refine pl_y 5 rfl (y_load1 Tryz.isAgg3 rfl (log_suits hl hbg)) rfl rfl rfl rfl (by kernel_rfl) ?_
  refine pl_w1 6 (by kernel_rfl) rfl rfl (pl_fire rfl rfl rfl (by kernel_rfl) ?_)
  refine oj_callP Tryz.call83 rfl (fun w1 hp => k_put s st c (bagAt st c.bag).suits b m w1 (str_rd hp (.head _)) hb hp.own1 hl (by omega) (by omega)) rfl (fun hpF => ?_) (fun hpT => ?_)
  · repeat (first | with_reducible refine ej_then_pan ?_ | with_reducible refine ej_blk_pan ?_ | with_reducible refine ej_noGoto_pan ?_ | with_reducible refine ej_np_pan ?_)
    have hE : stepE s.s st c = putE s.s st c (bagAt st c.bag).suits := by rw [hst, if_pos h12, if_neg h20]
    exact ej_pan rfl (fun w2 hp => .inr ⟨(), by rw [hE]; exact of_decide_eq_false hpF, by rw [hE], hp.givT [logB1 b s m st, mp ekI evB m (sealL st.seals)]⟩)
  have h27 := of_decide_eq_true hpT
  refine oj_nil ?_
  refine ej_pl (lt_w (by kernel_rfl) (lt_y (y_fa fa30_2 rfl) rfl (lt_y (y_nil rfl) rfl (lt_y (y_move rfl) rfl (lt_w (by kernel_rfl) (lt_w (by kernel_rfl) (lt_nil))))))) ?_
  refine pl_end (by kernel_rfl) ?_
  refine ej_th (cj_region ?_)
  refine oj_step (y_move rfl) rfl rfl rfl ?_
  refine oj_step (y_fa fa60_3 rfl) rfl rfl rfl ?_
  refine oj_step (y_load1 Tryz.isAgg3 rfl rfl) rfl rfl rfl ?_
  refine oj_step (y_nil rfl) rfl rfl rfl ?_
  refine oj_step (y_fa0 fa30_0 rfl) rfl rfl rfl ?_
  refine oj_store (vs := [.int .i64 c.to_]) (n := 1) (hset := set_bag (st := st) (u := withRoom (bagAt st c.bag) c.to_) hl hbg [] [.int .i64 (bagAt st c.bag).mark, .int .i64 (bagAt st c.bag).suits, .int .i64 (bagAt st c.bag).by_, .int .i64 (bagAt st c.bag).with_] [.int .i64 (bagAt st c.bag).room] [.int .i64 c.to_] rfl rfl rfl rfl) rfl rfl rfl rfl Tryz.sizeOf3 rfl ?_
  refine oj_nil ?_
  have hE : stepE s.s st c = 0 := by rw [hst, if_pos h12, if_neg h20]; exact h27
  exact ej_end0 rfl Tryz.results67 (fun w' hp => .inl ⟨(), hE, rfl, by
    have h9 := hp.givT [logB1 b s m (setB st c.bag (withRoom (bagAt st c.bag) c.to_)), mp ekI evB m (sealL (st.seals))]
    rw [stepM, if_neg hk1, if_pos hk]
    exact h9⟩)

set_option maxHeartbeats 1000000 in
theorem k_check (s : StrV) (st : LogV) (c : CarryV) (b m : Nat) (fp : Nat → Prop) (w : World) (hb : strB s.s = true) (hc : COk s.s c) (hI : Inv s.s st) (hk : c.kind = 3) (hO : ∀ f ∈ (lgF b m s st), f.P w ∧ ∀ b, f.fp b → b < w.heap.size) (hap : (lgF b m s st).Pairwise (fun f g => ∀ b, f.fp b → ¬ g.fp b)) (hS : ∀ g ∈ [strF fp s], g.P w ∧ ∀ i, g.fp i → i < w.heap.size ∧ ∀ f ∈ (lgF b m s st), ¬ f.fp i) : Calls Tryz.prog 68 #[.pointer (some ⟨b, 0, none⟩), .agg #[.int .i64 c.day, .int .i64 c.kind, .int .i64 c.bag, .int .i64 c.to_, .int .i64 c.by_, .int .i64 c.with_, .int .i64 c.mark, .int .i64 c.suits]] w (fun e w' => (∃ _ : Unit, stepE s.s st c = 0 ∧ e = .returned (.tuple #[]) ∧ Giv (lgF b m s st) w w' (lgF b m s (stepM st c))) ∨ (∃ _ : Unit, stepE s.s st c ≠ 0 ∧ e = .panicked (chP (stepE s.s st c)) ∧ Giv (lgF b m s st) w w' (lgF b m s st))) := by
  have hl := inv_lens hI
  have hbg := hc.bag
  have hsr : s.s.rooms.length = s.rooms.length := rfl
  have hrl := (StrOk.of hb).nr
  have hbn := hI.nums _ _ (bagAt_at hl hbg)
  have hk1 : c.kind ≠ 1 := by omega
  refine enterO (args := [.pointer (some ⟨b, 0, none⟩), .agg #[.int .i64 c.day, .int .i64 c.kind, .int .i64 c.bag, .int .i64 c.to_, .int .i64 c.by_, .int .i64 c.with_, .int .i64 c.mark, .int .i64 c.suits]]) (lgF b m s st) [strF fp s] Tryz.func68 rfl (by rw [Tryz.ntmps68]; simp) hO hap hS ?_
  refine cj_seq (cj_region ?_)
  refine oj_box rfl rfl rfl (fun b3 => ?_)
  refine oj_nil ?_
  refine ej_th ?_
  refine cj_plan 10 (by kernel_rfl) (by kernel_rfl) ?_
  refine pl_y 0 rfl (y_move rfl) rfl rfl rfl rfl (by kernel_rfl) ?_
  refine pl_y 1 rfl (y_loadN Tryz.isAgg60 Tryz.sizeOf60 rfl) rfl rfl rfl rfl (by kernel_rfl) ?_
  refine pl_y 6 rfl (y_fa fa60_6 rfl) rfl rfl rfl rfl (by kernel_rfl) ?_
  refine pl_y 7 rfl (y_load1 Tryz.isAgg3 rfl rfl) rfl rfl rfl rfl (by kernel_rfl) ?_
  refine pl_w1 2 (by kernel_rfl) rfl rfl (pl_fire rfl rfl rfl (by kernel_rfl) ?_)
  refine oj_callP Tryz.call85 rfl (fun w1 hp => k_lies s st c b m w1 (str_rd hp (.head _)) hb hc hp.own1 hI) rfl (fun hpF => ?_) (fun hpT => ?_)
  · repeat (first | with_reducible refine ej_then_pan ?_ | with_reducible refine ej_blk_pan ?_ | with_reducible refine ej_noGoto_pan ?_ | with_reducible refine ej_np_pan ?_)
    have hE : stepE s.s st c = lieE s.s st c := by exact step_lie hk1 (of_decide_eq_false hpF)
    exact ej_pan rfl (fun w2 hp => .inr ⟨(), by rw [hE]; exact of_decide_eq_false hpF, by rw [hE], hp.givT [logB1 b s m st, mp ekI evB m (sealL st.seals)]⟩)
  have h0 := of_decide_eq_true hpT
  have hst := step_lie0 hk1 h0
  rw [if_neg (by omega), if_pos hk] at hst
  refine oj_nil ?_
  refine ej_pl (lt_y (y_load1 Tryz.isAgg3 rfl rfl) rfl (lt_y (y_fa fa60_6 rfl) rfl (lt_w (by kernel_rfl) (lt_w (by kernel_rfl) (lt_nil))))) ?_
  refine pl_y 3 rfl (y_nil rfl) rfl rfl rfl rfl (by kernel_rfl) ?_
  refine pl_y 4 rfl (y_fa fa30_1 rfl) rfl rfl rfl rfl (by kernel_rfl) ?_
  refine pl_y 5 rfl (y_load1 Tryz.isAgg3 rfl (log_mark hl hbg)) rfl rfl rfl rfl (by kernel_rfl) ?_
  refine pl_y 8 rfl (y_eql rfl rfl) rfl rfl rfl rfl (by kernel_rfl) ?_
  refine pl_w1 9 (by kernel_rfl) rfl rfl (pl_fire rfl rfl rfl (by kernel_rfl) ?_)
  refine oj_callP Tryz.call81 rfl (fun w1 hp => k_need _ _ w1) rfl (fun hpF => ?_) (fun hpT => ?_)
  · repeat (first | with_reducible refine ej_then_pan ?_ | with_reducible refine ej_blk_pan ?_ | with_reducible refine ej_noGoto_pan ?_ | with_reducible refine ej_np_pan ?_)
    have hE : stepE s.s st c = 48 := by rw [hst, if_neg (by simpa using hpF)]
    exact ej_pan rfl (fun w2 hp => .inr ⟨(), by rw [hE]; decide, by rw [hE], hp.givT [logB1 b s m st, mp ekI evB m (sealL st.seals)]⟩)
  have h13 : (bagAt st c.bag).mark = c.mark := by simpa using hpT
  refine oj_nil ?_
  refine ej_pl (lt_w (by kernel_rfl) (lt_y (y_load1 Tryz.isAgg3 rfl (log_mark hl hbg)) rfl (lt_y (y_fa fa30_1 rfl) rfl (lt_y (y_nil rfl) rfl (lt_y (y_load1 Tryz.isAgg3 rfl rfl) rfl (lt_y (y_fa fa60_6 rfl) rfl (lt_y (y_loadN Tryz.isAgg60 Tryz.sizeOf60 rfl) rfl (lt_y (y_move rfl) rfl (lt_nil))))))))) ?_
  refine pl_end (by kernel_rfl) ?_
  have hE : stepE s.s st c = 0 := by rw [hst, if_pos h13]
  exact ej_end0 rfl Tryz.results68 (fun w' hp => .inl ⟨(), hE, rfl, by
    have h9 := hp.givT [logB1 b s m (st), mp ekI evB m (sealL (st.seals))]
    rw [stepM, if_neg hk1, if_neg (by omega), if_pos hk]
    exact h9⟩)

set_option maxHeartbeats 1000000 in
theorem k_open (s : StrV) (st : LogV) (c : CarryV) (b m : Nat) (fp : Nat → Prop) (w : World) (hb : strB s.s = true) (hc : COk s.s c) (hI : Inv s.s st) (hk : c.kind = 4) (hO : ∀ f ∈ (lgF b m s st), f.P w ∧ ∀ b, f.fp b → b < w.heap.size) (hap : (lgF b m s st).Pairwise (fun f g => ∀ b, f.fp b → ¬ g.fp b)) (hS : ∀ g ∈ [strF fp s], g.P w ∧ ∀ i, g.fp i → i < w.heap.size ∧ ∀ f ∈ (lgF b m s st), ¬ f.fp i) : Calls Tryz.prog 69 #[.pointer (some ⟨b, 0, none⟩), .agg #[.int .i64 c.day, .int .i64 c.kind, .int .i64 c.bag, .int .i64 c.to_, .int .i64 c.by_, .int .i64 c.with_, .int .i64 c.mark, .int .i64 c.suits]] w (fun e w' => (∃ _ : Unit, stepE s.s st c = 0 ∧ e = .returned (.tuple #[]) ∧ Giv (lgF b m s st) w w' (lgF b m s (stepM st c))) ∨ (∃ _ : Unit, stepE s.s st c ≠ 0 ∧ e = .panicked (chP (stepE s.s st c)) ∧ Giv (lgF b m s st) w w' (lgF b m s st))) := by
  have hl := inv_lens hI
  have hbg := hc.bag
  have hsr : s.s.rooms.length = s.rooms.length := rfl
  have hrl := (StrOk.of hb).nr
  have hbn := hI.nums _ _ (bagAt_at hl hbg)
  have hk1 : c.kind ≠ 1 := by omega
  refine enterO (args := [.pointer (some ⟨b, 0, none⟩), .agg #[.int .i64 c.day, .int .i64 c.kind, .int .i64 c.bag, .int .i64 c.to_, .int .i64 c.by_, .int .i64 c.with_, .int .i64 c.mark, .int .i64 c.suits]]) (lgF b m s st) [strF fp s] Tryz.func69 rfl (by rw [Tryz.ntmps69]; simp) hO hap hS ?_
  refine cj_seq (cj_region ?_)
  refine oj_box rfl rfl rfl (fun b3 => ?_)
  refine oj_nil ?_
  refine ej_th (cj_seq (cj_region ?_))
  refine oj_step (y_move rfl) rfl rfl rfl ?_
  refine oj_step (y_loadN Tryz.isAgg60 Tryz.sizeOf60 rfl) rfl rfl rfl ?_
  refine oj_callP Tryz.call85 rfl (fun w1 hp => k_lies s st c b m w1 (str_rd hp (.head _)) hb hc hp.own1 hI) rfl (fun hpF => ?_) (fun hpT => ?_)
  · repeat (first | with_reducible refine ej_then_pan ?_ | with_reducible refine ej_blk_pan ?_ | with_reducible refine ej_noGoto_pan ?_ | with_reducible refine ej_np_pan ?_)
    have hE : stepE s.s st c = lieE s.s st c := by exact step_lie hk1 (of_decide_eq_false hpF)
    exact ej_pan rfl (fun w2 hp => .inr ⟨(), by rw [hE]; exact of_decide_eq_false hpF, by rw [hE], hp.givT [logB1 b s m st, mp ekI evB m (sealL st.seals)]⟩)
  have h0 := of_decide_eq_true hpT
  have hst := step_lie0 hk1 h0
  rw [if_neg (by omega), if_neg (by omega), if_pos hk] at hst
  refine oj_step (y_assign rfl) rfl rfl rfl ?_
  refine oj_nil ?_
  refine ej_th (cj_seq (cj_region ?_))
  refine oj_step (y_move rfl) rfl rfl rfl ?_
  refine oj_step (y_fa fa60_6 rfl) rfl rfl rfl ?_
  refine oj_step (y_load1 Tryz.isAgg3 rfl rfl) rfl rfl rfl ?_
  refine oj_callLP (X := Unit) (Y := Unit) (fun _ => .tuple #[]) (fun _ => chP (sealE st c.mark)) (fun _ => sealE st c.mark = 0) (fun _ => sealE st c.mark ≠ 0) (lgF b m s st) (fun _ => (lgF b m s (addS st c.mark))) (fun _ => (lgF b m s st)) Tryz.call84 rfl rfl (fun w1 hp => by
    obtain ⟨q1, q2, q3⟩ := hp.ownL (Os := (lgF b m s st)) inferInstance
    exact k_seal s st c.mark b m w1 hl q1 q2) rfl (fun _ hsF => ?_) (fun _ hsT => ?_)
  · dsimp only [lgF, List.cons_append, List.nil_append]
    repeat (first | with_reducible refine ej_then_pan ?_ | with_reducible refine ej_blk_pan ?_ | with_reducible refine ej_noGoto_pan ?_ | with_reducible refine ej_np_pan ?_)
    have hE : stepE s.s st c = sealE st c.mark := by rw [hst]; rfl
    exact ej_pan rfl (fun w2 hp => .inr ⟨(), by rw [hE]; exact hsF, by rw [hE], hp.givT [logB1 b s m st, mp ekI evB m (sealL st.seals)]⟩)
  dsimp only [lgF, List.cons_append, List.nil_append]
  refine oj_nil ?_
  refine ej_th (cj_region ?_)
  refine oj_step (y_move rfl) rfl rfl rfl ?_
  refine oj_step (y_fa fa60_6 rfl) rfl rfl rfl ?_
  refine oj_step (y_load1 Tryz.isAgg3 rfl rfl) rfl rfl rfl ?_
  refine oj_step (y_nil rfl) rfl rfl rfl ?_
  refine oj_step (y_fa fa30_1 rfl) rfl rfl rfl ?_
  refine oj_store (vs := [.int .i64 c.mark]) (n := 1) (hset := set_bag (st := addS st c.mark) (u := withMark (bagAt st c.bag) c.mark) (hl.addS _) hbg [.int .i64 (bagAt st c.bag).room] [.int .i64 (bagAt st c.bag).suits, .int .i64 (bagAt st c.bag).by_, .int .i64 (bagAt st c.bag).with_] [.int .i64 (bagAt st c.bag).mark] [.int .i64 c.mark] rfl rfl rfl rfl) rfl rfl rfl rfl Tryz.sizeOf3 rfl ?_
  refine oj_nil ?_
  have hE : stepE s.s st c = 0 := by rw [hst]; exact hsT
  exact ej_end0 rfl Tryz.results69 (fun w' hp => .inl ⟨(), hE, rfl, by
    have h9 := hp.givT [logB1 b s m (setB (addS st c.mark) c.bag (withMark (bagAt st c.bag) c.mark)), mp ekI evB m (sealL ((addS st c.mark).seals))]
    rw [stepM, if_neg hk1, if_neg (by omega), if_neg (by omega), if_pos hk]
    exact h9⟩)

set_option maxHeartbeats 1000000 in
theorem k_out (s : StrV) (st : LogV) (c : CarryV) (b m : Nat) (fp : Nat → Prop) (w : World) (hb : strB s.s = true) (hc : COk s.s c) (hI : Inv s.s st) (hk : c.kind = 5) (hO : ∀ f ∈ (lgF b m s st), f.P w ∧ ∀ b, f.fp b → b < w.heap.size) (hap : (lgF b m s st).Pairwise (fun f g => ∀ b, f.fp b → ¬ g.fp b)) (hS : ∀ g ∈ [strF fp s], g.P w ∧ ∀ i, g.fp i → i < w.heap.size ∧ ∀ f ∈ (lgF b m s st), ¬ f.fp i) : Calls Tryz.prog 70 #[.pointer (some ⟨b, 0, none⟩), .agg #[.int .i64 c.day, .int .i64 c.kind, .int .i64 c.bag, .int .i64 c.to_, .int .i64 c.by_, .int .i64 c.with_, .int .i64 c.mark, .int .i64 c.suits]] w (fun e w' => (∃ _ : Unit, stepE s.s st c = 0 ∧ e = .returned (.tuple #[]) ∧ Giv (lgF b m s st) w w' (lgF b m s (stepM st c))) ∨ (∃ _ : Unit, stepE s.s st c ≠ 0 ∧ e = .panicked (chP (stepE s.s st c)) ∧ Giv (lgF b m s st) w w' (lgF b m s st))) := by
  have hl := inv_lens hI
  have hbg := hc.bag
  have hsr : s.s.rooms.length = s.rooms.length := rfl
  have hrl := (StrOk.of hb).nr
  have hbn := hI.nums _ _ (bagAt_at hl hbg)
  have hk1 : c.kind ≠ 1 := by omega
  refine enterO (args := [.pointer (some ⟨b, 0, none⟩), .agg #[.int .i64 c.day, .int .i64 c.kind, .int .i64 c.bag, .int .i64 c.to_, .int .i64 c.by_, .int .i64 c.with_, .int .i64 c.mark, .int .i64 c.suits]]) (lgF b m s st) [strF fp s] Tryz.func70 rfl (by rw [Tryz.ntmps70]; simp) hO hap hS ?_
  refine cj_seq (cj_region ?_)
  refine oj_box rfl rfl rfl (fun b3 => ?_)
  refine oj_nil ?_
  refine ej_th (cj_seq (cj_region ?_))
  refine oj_step (y_move rfl) rfl rfl rfl ?_
  refine oj_step (y_loadN Tryz.isAgg60 Tryz.sizeOf60 rfl) rfl rfl rfl ?_
  refine oj_callP Tryz.call85 rfl (fun w1 hp => k_lies s st c b m w1 (str_rd hp (.head _)) hb hc hp.own1 hI) rfl (fun hpF => ?_) (fun hpT => ?_)
  · repeat (first | with_reducible refine ej_then_pan ?_ | with_reducible refine ej_blk_pan ?_ | with_reducible refine ej_noGoto_pan ?_ | with_reducible refine ej_np_pan ?_)
    have hE : stepE s.s st c = lieE s.s st c := by exact step_lie hk1 (of_decide_eq_false hpF)
    exact ej_pan rfl (fun w2 hp => .inr ⟨(), by rw [hE]; exact of_decide_eq_false hpF, by rw [hE], hp.givT [logB1 b s m st, mp ekI evB m (sealL st.seals)]⟩)
  have h0 := of_decide_eq_true hpT
  have hst := step_lie0 hk1 h0
  rw [if_neg (by omega), if_neg (by omega), if_neg (by omega)] at hst
  refine oj_step (y_assign rfl) rfl rfl rfl ?_
  refine oj_nil ?_
  refine ej_th (cj_region ?_)
  refine oj_step (y_move rfl) rfl rfl rfl ?_
  refine oj_step (y_move rfl) rfl rfl rfl ?_
  refine oj_step (y_nil rfl) rfl rfl rfl ?_
  refine oj_step (y_fa0 fa30_0 rfl) rfl rfl rfl ?_
  refine oj_store (vs := [.int .i64 0]) (n := 1) (hset := set_bag (st := st) (u := withRoom (bagAt st c.bag) 0) hl hbg [] [.int .i64 (bagAt st c.bag).mark, .int .i64 (bagAt st c.bag).suits, .int .i64 (bagAt st c.bag).by_, .int .i64 (bagAt st c.bag).with_] [.int .i64 (bagAt st c.bag).room] [.int .i64 0] rfl rfl rfl rfl) rfl rfl rfl rfl Tryz.sizeOf3 rfl ?_
  refine oj_step (y_nil rfl) rfl rfl rfl ?_
  refine oj_step (y_fa fa30_1 rfl) rfl rfl rfl ?_
  refine oj_store (vs := [.int .i64 0]) (n := 1) (hset := set_bag (st := setB st c.bag (withRoom (bagAt st c.bag) 0)) (u := withMark (withRoom (bagAt st c.bag) 0) 0) (hl.setB _ _) hbg [.int .i64 0] [.int .i64 (bagAt st c.bag).suits, .int .i64 (bagAt st c.bag).by_, .int .i64 (bagAt st c.bag).with_] [.int .i64 (bagAt st c.bag).mark] [.int .i64 0] (by rw [bagAt_setB hl hbg]; rfl) rfl rfl rfl) rfl rfl rfl rfl Tryz.sizeOf3 rfl ?_
  refine oj_nil ?_
  have hE : stepE s.s st c = 0 := by exact hst
  exact ej_end0 rfl Tryz.results70 (fun w' hp => .inl ⟨(), hE, rfl, by
    have h9 := hp.givT [logB1 b s m (setB (setB st c.bag (withRoom (bagAt st c.bag) 0)) c.bag (withMark (withRoom (bagAt st c.bag) 0) 0)), mp ekI evB m (sealL (st.seals))]
    rw [stepM, if_neg hk1, if_neg (by omega), if_neg (by omega), if_neg (by omega)]
    exact h9⟩)

end Go.Proofs.YtomidcehahdmbaaGreat
namespace Go.Proofs.YtomidcehahdmbaaGreat
open Go.Sx Go.RowKit Vm
set_option maxRecDepth 20000
def evF : Option Nat → Value
  | none => .nilFunc
  | some f => .func (.func f) #[] #[]
abbrev waysL : List (Int × Option Nat) := [(1, some 66), (2, some 67), (3, some 68), (4, some 69), (5, some 70)]
def wayN (k : Int) : Nat := if k = 1 then 66 else if k = 2 then 67 else if k = 3 then 68 else if k = 4 then 69 else 70
theorem way_cases {k : Int} (h : 1 ≤ k ∧ k ≤ 5) : k = 1 ∨ k = 2 ∨ k = 3 ∨ k = 4 ∨ k = 5 := by omega
theorem way_get {k : Int} (h : 1 ≤ k ∧ k ≤ 5) : getL waysL k = some (some (wayN k)) := by rcases way_cases h with rfl | rfl | rfl | rfl | rfl <;> rfl
theorem way_enter {k : Int} (h : 1 ≤ k ∧ k ≤ 5) : ∀ args w, (callFunc (wayN k) args).run Tryz.prog w = .ok (.enter (wayN k) args) w := by
  rcases way_cases h with rfl | rfl | rfl | rfl | rfl
  · exact Tryz.call66
  · exact Tryz.call67
  · exact Tryz.call68
  · exact Tryz.call69
  · exact Tryz.call70
theorem k_step (s : StrV) (st : LogV) (c : CarryV) (b m : Nat) (fp : Nat → Prop) (w : World) (hb : strB s.s = true) (hc : COk s.s c) (hI : Inv s.s st) (hO : ∀ f ∈ (lgF b m s st), f.P w ∧ ∀ b, f.fp b → b < w.heap.size) (hap : (lgF b m s st).Pairwise (fun f g => ∀ b, f.fp b → ¬ g.fp b)) (hS : ∀ g ∈ [strF fp s], g.P w ∧ ∀ i, g.fp i → i < w.heap.size ∧ ∀ f ∈ (lgF b m s st), ¬ f.fp i) : Calls Tryz.prog (wayN c.kind) #[.pointer (some ⟨b, 0, none⟩), .agg #[.int .i64 c.day, .int .i64 c.kind, .int .i64 c.bag, .int .i64 c.to_, .int .i64 c.by_, .int .i64 c.with_, .int .i64 c.mark, .int .i64 c.suits]] w (fun e w' => (∃ _ : Unit, stepE s.s st c = 0 ∧ e = .returned (.tuple #[]) ∧ Giv (lgF b m s st) w w' (lgF b m s (stepM st c))) ∨ (∃ _ : Unit, stepE s.s st c ≠ 0 ∧ e = .panicked (chP (stepE s.s st c)) ∧ Giv (lgF b m s st) w w' (lgF b m s st))) := by
  rcases way_cases hc.kind with hk | hk | hk | hk | hk
  · rw [show wayN c.kind = 66 by rw [hk]; rfl]; exact k_in s st c b m fp w hb hc hI hk hO hap hS
  · rw [show wayN c.kind = 67 by rw [hk]; rfl]; exact k_move s st c b m fp w hb hc hI hk hO hap hS
  · rw [show wayN c.kind = 68 by rw [hk]; rfl]; exact k_check s st c b m fp w hb hc hI hk hO hap hS
  · rw [show wayN c.kind = 69 by rw [hk]; rfl]; exact k_open s st c b m fp w hb hc hI hk hO hap hS
  · rw [show wayN c.kind = 70 by rw [hk]; rfl]; exact k_out s st c b m fp w hb hc hI hk hO hap hS

theorem k_ways  (w : World)  : Calls Tryz.prog 40 #[] w (fun e w' => ∃ z : Nat, e = .returned (.map (some z)) ∧ Giv [] w w' [mp ekI evF z waysL]) := by
  refine enterO (args := []) [] [] Tryz.func40 rfl (by rw [Tryz.ntmps40]; simp) (fun _ h => by cases h) .nil (fun _ h => by cases h) ?_
  refine cj_seq ?_
  refine cj_regionG (gj_step (y_assign rfl) rfl rfl rfl (gj_nil ?_))
  refine ej_th (cj_seq (cj_region ?_))
  refine oj_makeMap ekI evF rfl (fun m1 => ?_)
  refine oj_insert (oj_mapUpdate (ek := ekI) (ev := evF) (l := []) (kk := 1) (v := some 66) Tryz.underlying85 Tryz.underlying3 rfl rfl rfl ?_)
  rw [show putL ([] : List (Int × Option Nat)) 1 (some 66) = [(1, some 66)] from rfl]
  refine oj_insert (oj_mapUpdate (ek := ekI) (ev := evF) (l := [(1, some 66)]) (kk := 2) (v := some 67) Tryz.underlying85 Tryz.underlying3 rfl rfl rfl ?_)
  rw [show putL ([(1, some 66)] : List (Int × Option Nat)) 2 (some 67) = [(1, some 66), (2, some 67)] from rfl]
  refine oj_insert (oj_mapUpdate (ek := ekI) (ev := evF) (l := [(1, some 66), (2, some 67)]) (kk := 3) (v := some 68) Tryz.underlying85 Tryz.underlying3 rfl rfl rfl ?_)
  rw [show putL ([(1, some 66), (2, some 67)] : List (Int × Option Nat)) 3 (some 68) = [(1, some 66), (2, some 67), (3, some 68)] from rfl]
  refine oj_insert (oj_mapUpdate (ek := ekI) (ev := evF) (l := [(1, some 66), (2, some 67), (3, some 68)]) (kk := 4) (v := some 69) Tryz.underlying85 Tryz.underlying3 rfl rfl rfl ?_)
  rw [show putL ([(1, some 66), (2, some 67), (3, some 68)] : List (Int × Option Nat)) 4 (some 69) = [(1, some 66), (2, some 67), (3, some 68), (4, some 69)] from rfl]
  refine oj_insert (oj_mapUpdate (ek := ekI) (ev := evF) (l := [(1, some 66), (2, some 67), (3, some 68), (4, some 69)]) (kk := 5) (v := some 70) Tryz.underlying85 Tryz.underlying3 rfl rfl rfl ?_)
  rw [show putL ([(1, some 66), (2, some 67), (3, some 68), (4, some 69)] : List (Int × Option Nat)) 5 (some 70) = [(1, some 66), (2, some 67), (3, some 68), (4, some 69), (5, some 70)] from rfl]
  refine oj_step (y_move rfl) rfl rfl rfl ?_
  refine oj_step (y_assign rfl) rfl rfl rfl ?_
  refine oj_nil ?_
  refine ej_th (cj_ret ?_)
  exact ej_ret1 rfl Tryz.results40 rfl (fun w' hp => ⟨m1, rfl, hp.givT [mp ekI evF m1 waysL]⟩)

theorem k_done1A (be : Nat) (w : World) : CallsD Tryz.prog 39 #[.pointer (some ⟨be, 0, none⟩)] .returning w (fun e u' w' => (∃ v, e = .returned v) ∧ u' = .returning ∧ Grow w w') := by
  refine callsD_rec .nilIface (fun i => i < w.heap.size) [] [] Tryz.func39 rfl (by rw [Tryz.ntmps39]; simp) (by rw [Tryz.ntmps39]; decide) (by rw [Tryz.ntmps39]; decide) rfl rfl rfl rfl rfl rfl (fun c₀ cs h => .inr ⟨rec_ret c₀ cs h, rfl, rfl⟩) ⟨rfl, rfl, rfl, Nat.le_refl _, fun _ hi => ⟨hi, rfl⟩, fun _ h => (by cases h), .nil, fun _ h => (by cases h)⟩ ?_
  refine cj_seq ?_
  refine cj_regionG (gj_step (y_move rfl) rfl rfl rfl (gj_step (y_neqNilI false ⟨_, Tryz.underlying20⟩ rfl (.inl ⟨rfl, rfl⟩)) rfl rfl rfl (gj_nil ?_)))
  refine ej_th ?_
  refine cj_condF rfl (rfl) ?_
  refine cj_skip ?_
  exact ej_end0 rfl Tryz.results39 (fun w' hp => ⟨⟨_, rfl⟩, rfl, hp.below⟩)

theorem k_done1B (be : Nat) (E : Int) (w : World) (hbe : (ownB be (cellsB 32 [.int .i64 0])).P w) : CallsD Tryz.prog 39 #[.pointer (some ⟨be, 0, none⟩)] (.panicking (chP E)) w (fun e u' w' => (∃ v, e = .returned v) ∧ u' = .panicking [{ v := .iface 83 (.agg #[.int .i64 E]), recovered := true }] ∧ Mut (ownB be (cellsB 32 [.int .i64 0])) w w' ∧ w'.heap[be]? = some (cellsB 32 [.int .i64 E])) := by
  refine callsD_rec (.iface 83 (.agg #[.int .i64 E])) (fun i => i < w.heap.size ∧ i ≠ be) [ownB be (cellsB 32 [.int .i64 0])] [] Tryz.func39 rfl (by rw [Tryz.ntmps39]; simp) (by rw [Tryz.ntmps39]; decide) (by rw [Tryz.ntmps39]; decide) rfl rfl rfl rfl rfl rfl (fun c₀ cs h => .inl (rec_pan _ c₀ cs h)) ⟨rfl, rfl, rfl, Nat.le_refl _, fun _ hi => ⟨hi.1, rfl⟩, fun f hf => (by
    rw [List.mem_singleton.1 hf]
    exact ⟨hbe, fun b hb => by have hb : b = be := hb; subst hb; exact ⟨(Array.getElem?_eq_some_iff.1 hbe).1, fun h => h.2 rfl⟩⟩), List.pairwise_singleton .., fun _ h => (by cases h)⟩ ?_
  refine cj_seq ?_
  refine cj_regionG (gj_step (y_move rfl) rfl rfl rfl (gj_step (y_neqNilI true ⟨_, Tryz.underlying20⟩ rfl (.inr ⟨⟨_, _, rfl⟩, rfl⟩)) rfl rfl rfl (gj_nil ?_)))
  refine ej_th ?_
  refine cj_condT rfl (rfl) ?_
  refine cj_seq (cj_region ?_)
  refine oj_step (y_move rfl) rfl rfl rfl ?_
  refine oj_step (y_typeAssertT Tryz.underlying83 (fun _ h => by cases h) rfl) rfl rfl rfl ?_
  refine oj_step (y_move rfl) rfl rfl rfl ?_
  refine oj_step (y_extract rfl rfl) rfl rfl rfl ?_
  refine oj_step (y_extract rfl rfl) rfl rfl rfl ?_
  refine oj_alloc Tryz.zeroValue83 rfl rfl (fun b2 => ?_)
  refine oj_store rfl rfl rfl rfl Tryz.sizeOf83 rfl ?_
  refine oj_step (y_assign rfl) rfl rfl rfl ?_
  refine oj_nil ?_
  refine ej_th (cj_seq (cj_seq ?_))
  refine cj_regionG (gj_step (y_move rfl) rfl rfl rfl (gj_step (y_not rfl) rfl rfl rfl (gj_nil ?_)))
  refine ej_th ?_
  refine cj_condF rfl (rfl) ?_
  refine cj_skip (ej_th (cj_region ?_))
  refine oj_step (y_fa0 fa83_0 rfl) rfl rfl rfl ?_
  refine oj_step (y_load1 Tryz.isAgg32 rfl rfl) rfl rfl rfl ?_
  refine oj_store rfl rfl rfl rfl Tryz.sizeOf32 rfl ?_
  refine oj_nil ?_
  exact ej_end0 rfl Tryz.results39 (fun w' hp => ⟨⟨_, rfl⟩, rfl, hp.mut, hp.own1⟩)

end Go.Proofs.YtomidcehahdmbaaGreat
namespace Go.Proofs.YtomidcehahdmbaaGreat
open Go.Sx Go.RowKit Vm
set_option maxRecDepth 20000
set_option maxHeartbeats 1600000 in
theorem k_done (s : StrV) (st : LogV) (l : List CarryV) (A : Option Addr) (cc b m : Nat) (fp fpl : Nat → Prop) (w : World) (hb : strB s.s = true) (hall : ∀ c ∈ l, COk s.s c) (hll : l.length ≤ 64) (hI : Inv s.s st) (hO : ∀ f ∈ (lgF b m s st), f.P w ∧ ∀ b, f.fp b → b < w.heap.size) (hap : (lgF b m s st).Pairwise (fun f g => ∀ b, f.fp b → ¬ g.fp b)) (hS : ∀ g ∈ [strF fp s, sl fpl 8 encCa A l], g.P w ∧ ∀ i, g.fp i → i < w.heap.size ∧ ∀ f ∈ (lgF b m s st), ¬ f.fp i) : Calls Tryz.prog 15 #[.pointer (some ⟨b, 0, none⟩), .slice A l.length cc] w (fun e w' => ∃ _ : Unit, e = .returned (.tuple #[.int .i64 ((run s.s st l).2.1 : Nat), .int .i64 (run s.s st l).2.2]) ∧ Giv (lgF b m s st) w w' (lgF b m s (run s.s st l).1)) := by
  refine enterDO (args := [.pointer (some ⟨b, 0, none⟩), .slice A l.length cc]) (lgF b m s st) [strF fp s, sl fpl 8 encCa A l] Tryz.func15 rfl (by rw [Tryz.ntmps15]; simp) hO hap hS ?_
  refine cj_seq (cj_region ?_)
  refine oj_step (y_assign rfl) rfl rfl rfl ?_
  refine oj_alloc Tryz.zeroValue32 rfl rfl (fun b5 => ?_)
  refine oj_nil ?_
  refine ej_th (cj_seq (cj_region ?_))
  refine oj_step (y_makeFunc rfl rfl) rfl rfl rfl ?_
  refine oj_defer rfl rfl rfl ?_
  refine oj_nil ?_
  refine ej_th (cj_seq (cj_region ?_))
  refine oj_callL (X := Nat) (fun z => .map (some z)) [] (fun z => [mp ekI evF z waysL]) Tryz.call40 rfl rfl (fun w1 hp => k_ways w1) rfl (fun m10 => ?_)
  dsimp only [lgF, List.cons_append, List.nil_append]
  refine oj_step (y_assign rfl) rfl rfl rfl ?_
  refine oj_nil ?_
  refine ej_th (cj_seq (cj_seq ?_))
  refine cj_regionG (gj_step (y_move rfl) rfl rfl rfl (gj_step (y_lenA Tryz.underlying27 rfl) rfl rfl rfl (gj_step (y_move rfl) rfl rfl rfl (gj_nil ?_))))
  refine ej_th (cj_block ?_)
  refine cj_takes [logB1 b s m st, mp ekI evB m (sealL st.seals), mp ekI evF m10 waysL, ownB b5 (cellsB 32 [.int .i64 0])] ?_
  refine cj_lpi (X := Nat × Int × LogV) [(0, _), (1, _), (5, _), (6, _), (11, _), (12, _)] (fun ⟨k, a, g⟩ => k ≤ l.length ∧ run s.s st (l.take k) = (g, k, 0)) (fun ⟨k, a, g⟩ => [(4, .int .i64 a), (13, .int .i64 (k : Nat))]) (fun ⟨k, a, g⟩ => [logB1 b s m g, mp ekI evB m (sealL g.seals), mp ekI evF m10 waysL, ownB b5 (cellsB 32 [.int .i64 0])]) (fun ⟨k, a, g⟩ => [strF fp s, sl fpl 8 encCa A l]) (fun ⟨k, a, g⟩ => l.length - k) (0, 0, st) (⟨Nat.zero_le _, by rw [List.take_zero]; rfl⟩) ⟨rfl, rfl, rfl, rfl, rfl, rfl, rfl, rfl, trivial⟩ ?_
  rintro ⟨k, a, g⟩ ⟨hk, hrun⟩
  dsimp only [List.cons_append, List.nil_append]
  refine cj_seq ?_
  refine cj_regionG (gj_step (y_lss rfl rfl) rfl rfl rfl (gj_nil ?_))
  refine ej_th (cj_seq ?_)
  refine cj_cond rfl (fun h14 => ?_) (fun h14 => ?_)
  · have h14b := h14
    try simp only [sxb] at h14
    obtain ⟨c, hck⟩ : ∃ c, l[k]? = some c := ⟨_, List.getElem?_eq_getElem (by omega)⟩
    have hcc := hall c (List.mem_of_getElem? hck)
    have hIg : Inv s.s g := by
      have h9 := Inv.run hb (l.take k) st hI (fun x hx => hall x (List.mem_of_mem_take hx))
      rw [hrun] at h9; exact h9
    have hlg := inv_lens hIg
    have hbg := hcc.bag
    refine cj_skip (ej_th (cj_seq (cj_block (cj_seq (cj_region ?_)))))
    refine oj_step (y_move rfl) rfl rfl rfl ?_
    refine oj_step (y_ixR (reads_sl) Tryz.underlying27 Tryz.sizeOf60 rfl rfl (⟨by omega, by omega⟩)) rfl rfl rfl ?_
    refine oj_step (y_ldW (reads_sl) Tryz.isAgg60 Tryz.sizeOf60 rfl (hck) (fun _ => rfl)) rfl rfl rfl ?_
    refine oj_alloc Tryz.zeroValue60 rfl rfl (fun b8 => ?_)
    refine oj_step (y_assign rfl) rfl rfl rfl ?_
    refine oj_store rfl rfl rfl rfl Tryz.sizeOf60 rfl ?_
    refine oj_nil ?_
    refine ej_th (cj_seq ?_)
    refine cj_regionG (gj_step (y_move rfl) rfl rfl rfl (gj_step (y_assign rfl) rfl rfl rfl (gj_nil ?_)))
    refine ej_th (cj_seq (cj_region ?_))
    refine oj_step (y_move rfl) rfl rfl rfl ?_
    refine oj_step (y_fa fa60_1 rfl) rfl rfl rfl ?_
    refine oj_step (y_load1 Tryz.isAgg3 rfl rfl) rfl rfl rfl ?_
    refine oj_step (y_lookupG (ek := ekI) (ev := evF) (kk := c.kind) none (way_get hcc.kind) Tryz.underlying85 Tryz.underlying3 Tryz.zeroValue87 rfl rfl) rfl rfl rfl ?_
    refine oj_step (y_move rfl) rfl rfl rfl ?_
    refine oj_step (y_loadN Tryz.isAgg60 Tryz.sizeOf60 rfl) rfl rfl rfl ?_
    refine oj_callLP (X := Unit) (Y := Unit) (fun _ => .tuple #[]) (fun _ => chP (stepE s.s g c)) (fun _ => stepE s.s g c = 0) (fun _ => stepE s.s g c ≠ 0) (lgF b m s g) (fun _ => (lgF b m s (stepM g c))) (fun _ => (lgF b m s g)) (way_enter hcc.kind) rfl rfl (fun w1 hp => by
      obtain ⟨q1, q2, q3⟩ := hp.ownL (Os := (lgF b m s g)) inferInstance
      exact k_step s g c b m fp w1 hb hcc hIg q1 q2 (fun f hf => q3 f (by rw [List.mem_singleton.1 hf]; exact .head _))) rfl (fun _ hsF => ?_) (fun _ hsT => ?_)
    · dsimp only [lgF, List.cons_append, List.nil_append]
      repeat (first | with_reducible refine ej_then_pan ?_ | with_reducible refine ej_blk_pan ?_ | with_reducible refine ej_noGoto_pan ?_ | with_reducible refine ej_np_pan ?_)
      have hr9 := run_bad hrun hck hsF
      refine ej_panD (ob := cellsB 32 [.int .i64 0]) (ob' := cellsB 32 [.int .i64 (stepE s.s g c)]) rfl Tryz.call39 rfl (fun w1 hp => k_done1B b5 (stepE s.s g c) w1 hp.own1) (fun a w1 hr hp => ⟨_, res_TC Tryz.results15 rfl (y_load1 Tryz.isAgg32 rfl rfl) rfl hr hp, (), by rw [hr9], by rw [hr9]; exact hp.givT (lgF b m s g)⟩)
    dsimp only [lgF, List.cons_append, List.nil_append]
    refine oj_nil ?_
    refine ej_th ?_
    refine cj_plan 20 (by kernel_rfl) (by kernel_rfl) ?_
    refine pl_y 0 rfl (y_move rfl) rfl rfl rfl rfl (by kernel_rfl) ?_
    refine pl_y 1 rfl (y_fa fa60_2 rfl) rfl rfl rfl rfl (by kernel_rfl) ?_
    refine pl_y 2 rfl (y_load1 Tryz.isAgg3 rfl rfl) rfl rfl rfl rfl (by kernel_rfl) ?_
    refine pl_y 3 rfl (y_move rfl) rfl rfl rfl rfl (by kernel_rfl) ?_
    refine pl_y 4 rfl (y_fa fa60_2 rfl) rfl rfl rfl rfl (by kernel_rfl) ?_
    refine pl_y 5 rfl (y_load1 Tryz.isAgg3 rfl rfl) rfl rfl rfl rfl (by kernel_rfl) ?_
    refine pl_y 6 rfl (y_fa fa60_4 rfl) rfl rfl rfl rfl (by kernel_rfl) ?_
    refine pl_y 7 rfl (y_load1 Tryz.isAgg3 rfl rfl) rfl rfl rfl rfl (by kernel_rfl) ?_
    refine pl_y 8 rfl (y_fa fa60_5 rfl) rfl rfl rfl rfl (by kernel_rfl) ?_
    refine pl_y 9 rfl (y_load1 Tryz.isAgg3 rfl rfl) rfl rfl rfl rfl (by kernel_rfl) ?_
    refine pl_y 10 rfl (y_nil rfl) rfl rfl rfl rfl (by kernel_rfl) ?_
    refine pl_y 11 rfl (y_fa fa49_1 rfl) rfl rfl rfl rfl (by kernel_rfl) ?_
    refine pl_y 12 rfl (y_ixArr Tryz.underlying31 Tryz.sizeOf30 rfl rfl (by omega)) rfl rfl rfl rfl (by kernel_rfl) ?_
    refine pl_y 13 rfl (y_fa fa30_3 rfl) rfl rfl rfl rfl (by kernel_rfl) ?_
    refine pl_y 15 rfl (y_nil rfl) rfl rfl rfl rfl (by kernel_rfl) ?_
    refine pl_y 16 rfl (y_fa fa49_1 rfl) rfl rfl rfl rfl (by kernel_rfl) ?_
    refine pl_w1 14 (by kernel_rfl) rfl rfl (pl_fire rfl rfl rfl (by kernel_rfl) ?_)
    first | refine oj_store (vs := [.int .i64 c.by_]) (n := 1) (hset := set_bag (st := stepM g c) (u := withBy (bagAt (stepM g c) c.bag) c.by_) (hlg.stepM c) hbg [.int .i64 (bagAt (stepM g c) c.bag).room, .int .i64 (bagAt (stepM g c) c.bag).mark, .int .i64 (bagAt (stepM g c) c.bag).suits] [.int .i64 (bagAt (stepM g c) c.bag).with_] [.int .i64 (bagAt (stepM g c) c.bag).by_] [.int .i64 c.by_] rfl rfl rfl rfl) rfl rfl rfl rfl Tryz.sizeOf3 rfl ?_ | refine oj_store (vs := [.int .i64 c.by_]) (n := 1) (hset := set_bag (st := setB (stepM g c) c.bag (withWith (bagAt (stepM g c) c.bag) c.with_)) (u := withBy (withWith (bagAt (stepM g c) c.bag) c.with_) c.by_) ((hlg.stepM c).setB _ _) hbg [.int .i64 (bagAt (stepM g c) c.bag).room, .int .i64 (bagAt (stepM g c) c.bag).mark, .int .i64 (bagAt (stepM g c) c.bag).suits] [.int .i64 c.with_] [.int .i64 (bagAt (stepM g c) c.bag).by_] [.int .i64 c.by_] (by rw [bagAt_setB (hlg.stepM c) hbg]; rfl) rfl rfl rfl) rfl rfl rfl rfl Tryz.sizeOf3 rfl ?_
    refine oj_nil ?_
    refine ej_pl (lt_y (y_fa fa49_1 rfl) rfl (lt_y (y_nil rfl) rfl (lt_w (by kernel_rfl) (lt_y (y_ixArr Tryz.underlying31 Tryz.sizeOf30 rfl rfl (by omega)) rfl (lt_y (y_fa fa49_1 rfl) rfl (lt_y (y_nil rfl) rfl (lt_y (y_load1 Tryz.isAgg3 rfl rfl) rfl (lt_y (y_fa fa60_5 rfl) rfl (lt_w (by kernel_rfl) (lt_w (by kernel_rfl) (lt_y (y_load1 Tryz.isAgg3 rfl rfl) rfl (lt_y (y_fa fa60_2 rfl) rfl (lt_y (y_move rfl) rfl (lt_w (by kernel_rfl) (lt_w (by kernel_rfl) (lt_w (by kernel_rfl) (lt_nil))))))))))))))))) ?_
    refine pl_y 17 rfl (y_ixArr Tryz.underlying31 Tryz.sizeOf30 rfl rfl (by omega)) rfl rfl rfl rfl (by kernel_rfl) ?_
    refine pl_y 18 rfl (y_fa fa30_4 rfl) rfl rfl rfl rfl (by kernel_rfl) ?_
    refine pl_w1 19 (by kernel_rfl) rfl rfl (pl_fire rfl rfl rfl (by kernel_rfl) ?_)
    first | refine oj_store (vs := [.int .i64 c.with_]) (n := 1) (hset := set_bag (st := stepM g c) (u := withWith (bagAt (stepM g c) c.bag) c.with_) (hlg.stepM c) hbg [.int .i64 (bagAt (stepM g c) c.bag).room, .int .i64 (bagAt (stepM g c) c.bag).mark, .int .i64 (bagAt (stepM g c) c.bag).suits, .int .i64 (bagAt (stepM g c) c.bag).by_] [] [.int .i64 (bagAt (stepM g c) c.bag).with_] [.int .i64 c.with_] rfl rfl rfl rfl) rfl rfl rfl rfl Tryz.sizeOf3 rfl ?_ | refine oj_store (vs := [.int .i64 c.with_]) (n := 1) (hset := set_bag (st := setB (stepM g c) c.bag (withBy (bagAt (stepM g c) c.bag) c.by_)) (u := withWith (withBy (bagAt (stepM g c) c.bag) c.by_) c.with_) ((hlg.stepM c).setB _ _) hbg [.int .i64 (bagAt (stepM g c) c.bag).room, .int .i64 (bagAt (stepM g c) c.bag).mark, .int .i64 (bagAt (stepM g c) c.bag).suits, .int .i64 c.by_] [] [.int .i64 (bagAt (stepM g c) c.bag).with_] [.int .i64 c.with_] (by rw [bagAt_setB (hlg.stepM c) hbg]; rfl) rfl rfl rfl) rfl rfl rfl rfl Tryz.sizeOf3 rfl ?_
    refine oj_nil ?_
    refine ej_pl (lt_w (by kernel_rfl) (lt_y (y_ixArr Tryz.underlying31 Tryz.sizeOf30 rfl rfl (by omega)) rfl (lt_y (y_fa fa49_1 rfl) rfl (lt_y (y_nil rfl) rfl (lt_w (by kernel_rfl) (lt_w (by kernel_rfl) (lt_w (by kernel_rfl) (lt_w (by kernel_rfl) (lt_w (by kernel_rfl) (lt_w (by kernel_rfl) (lt_w (by kernel_rfl) (lt_w (by kernel_rfl) (lt_w (by kernel_rfl) (lt_w (by kernel_rfl) (lt_w (by kernel_rfl) (lt_w (by kernel_rfl) (lt_w (by kernel_rfl) (lt_w (by kernel_rfl) (lt_nil))))))))))))))))))) ?_
    refine pl_end (by kernel_rfl) ?_
    refine ej_blk (ej_th ?_)
    refine cj_regionG (gj_step (y_add rfl rfl (by omega)) rfl rfl rfl (gj_step (y_move rfl) rfl rfl rfl (gj_nil ?_)))
    first | rw [step_done hlg hbg] | rw [step_done' hlg hbg]
    rw [stepM_seals hlg hbg]
    exact ej_nx (k + 1, (k : Nat), stepN g c) (by first | omega | (simp only; omega)) ⟨by first | omega | (simp only; omega), run_next hrun hck hsT⟩ ⟨rfl, rfl, rfl, rfl, rfl, rfl, rfl, rfl, trivial⟩
  · have h14b := h14
    try simp only [sxb] at h14
    have hr9 := run_all hrun (by omega) hk
    refine cj_exit (ej_then_exit (ej_then_exit (ej_blk_hit (ej_th (cj_seq (cj_region ?_))))))
    refine oj_step (y_move rfl) rfl rfl rfl ?_
    refine oj_step (y_lenA Tryz.underlying27 rfl) rfl rfl rfl ?_
    refine oj_step (y_assign rfl) rfl rfl rfl ?_
    refine oj_store rfl rfl rfl rfl Tryz.sizeOf32 rfl ?_
    refine oj_nil ?_
    refine ej_th (cj_ret ?_)
    exact ej_retD rfl Tryz.call39 (fun w1 hp => k_done1A b5 w1) (fun a w1 hr hp => ⟨_, res_TC Tryz.results15 rfl (y_load1 Tryz.isAgg32 rfl rfl) rfl hr hp, (), by rw [hr9], by rw [hr9]; exact hp.givT (lgF b m s g)⟩)

end Go.Proofs.YtomidcehahdmbaaGreat
namespace Vm
open Go.Proofs.YtomidcehahdmbaaGreat
theorem fidx_lt {α : Type} (q : α → Bool) : ∀ (l : List α) (i : Int), fidx q l i = -1 ∨ (i ≤ fidx q l i ∧ fidx q l i < i + l.length)
  | [], i => .inl rfl
  | x :: l, i => by
    rw [fidx]
    by_cases h : q x = true
    · rw [if_pos h]; simp only [List.length_cons]; omega
    · rw [if_neg h]
      have := fidx_lt q l (i + 1)
      simp only [List.length_cons]; omega
def afterI (l : List CarryV) (day : Int) : Int := fidx (fun c => decide (day < c.day)) l 0
def uptoN (l : List CarryV) (day : Int) : Nat := if afterI l day < 0 then l.length else (afterI l day).toNat
theorem upto_le (l : List CarryV) (day : Int) : uptoN l day ≤ l.length := by
  unfold uptoN afterI
  have := fidx_lt (fun c : CarryV => decide (day < c.day)) l 0
  split <;> omega
def whereE (s : Str) (l : List CarryV) (bag day : Int) : Int := if playE s l = 0 then (if (btw 0 bag 31 && btw 0 day 36500) = true then 0 else 7) else playE s l
def whereR (s : Str) (l : List CarryV) (bag day : Int) : Int := if whereE s l bag day = 0 then ((playB s (l.take (uptoN l day))).getD bag.toNat bag0).room else 0
theorem playB_len {s : Str} (l : List CarryV) : (playB s l).length = 32 := by
  unfold playB
  by_cases h : playE s l = 0
  · rw [if_pos h]
    unfold playE at h
    by_cases hs : strB s = true
    · rw [if_pos hs] at h
      by_cases hl : logB s l = true
      · exact (Inv.run hs l log0 (Inv.start hs) (log_ok hl)).len
      · rw [if_neg hl] at h; omega
    · rw [if_neg hs] at h; omega
  · rw [if_neg h]; rfl
/-- The bag's rooms since its seal was right. -/
def sinceL (s : Str) (l : List CarryV) (bag : Int) : Nat → List Int
  | 0 => []
  | k + 1 => match l[k]? with
    | none => sinceL s l bag k
    | some c => if c.bag = bag then (if c.kind = 2 then sinceL s l bag k else []) ++ [((playB s (l.take (k + 1))).getD bag.toNat bag0).room] else sinceL s l bag k
def suspE (s : Str) (l : List CarryV) (bag : Int) : Int := if playE s l = 0 then (if btw 0 bag 31 = true then (if ((playB s l).getD bag.toNat bag0).room = 0 then 44 else 0) else 7) else playE s l
def suspV (s : Str) (l : List CarryV) (bag : Int) : List Nat := if suspE s l bag = 0 then minL ((sinceL s l bag l.length).flatMap fun r => groupsV s r.toNat) else []
theorem play_num {s : Str} (l : List CarryV) {n : Int} (hn : 0 ≤ n ∧ n ≤ 31) : 0 ≤ ((playB s l).getD n.toNat bag0).room ∧ ((playB s l).getD n.toNat bag0).room ≤ 5 := by
  have h32 := playB_len (s := s) l
  have hat : (playB s l)[n.toNat]? = some ((playB s l).getD n.toNat bag0) := by
    have hlt : n.toNat < (playB s l).length := by omega
    rw [List.getD_eq_getElem?_getD, List.getElem?_eq_getElem hlt]; rfl
  generalize hb : (playB s l).getD n.toNat bag0 = b at hat
  unfold playB at hat
  by_cases h : playE s l = 0
  · rw [if_pos h] at hat
    unfold playE at h
    by_cases hs : strB s = true
    · rw [if_pos hs] at h
      by_cases hl : logB s l = true
      · have := (Inv.run hs l log0 (Inv.start hs) (log_ok hl)).nums _ _ hat
        omega
      · rw [if_neg hl] at h; omega
    · rw [if_neg hs] at h; omega
  · rw [if_neg h] at hat
    have : b = bag0 := (List.mem_replicate.1 (List.mem_of_getElem? hat)).2
    subst this
    exact ⟨Int.le_refl _, by decide⟩
theorem since_bd {s : Str} {l : List CarryV} {bag : Int} (hb : 0 ≤ bag ∧ bag ≤ 31) : ∀ k, (∀ r ∈ sinceL s l bag k, 0 ≤ r ∧ r ≤ 5) ∧ (sinceL s l bag k).length ≤ k
  | 0 => ⟨fun r h => (nomatch h), Nat.le_refl _⟩
  | k + 1 => by
    obtain ⟨h1, h2⟩ := since_bd (s := s) (l := l) hb k
    rw [sinceL]
    cases hc : l[k]? with
    | none => exact ⟨h1, Nat.le_succ_of_le h2⟩
    | some c =>
      dsimp only
      by_cases e : c.bag = bag
      · rw [if_pos e]
        have hp := play_num (s := s) (l.take (k + 1)) hb
        by_cases k2 : c.kind = 2
        · rw [if_pos k2]
          refine ⟨fun r hr => ?_, by rw [List.length_append]; simp only [List.length_cons, List.length_nil]; omega⟩
          rcases List.mem_append.1 hr with h | h
          · exact h1 r h
          · rw [List.mem_singleton.1 h]; exact hp
        · rw [if_neg k2]
          refine ⟨fun r hr => ?_, by simp⟩
          rw [List.nil_append] at hr
          rw [List.mem_singleton.1 hr]; exact hp
      · rw [if_neg e]; exact ⟨h1, by omega⟩
theorem since_no {s : Str} {l : List CarryV} {bag : Int} {k : Nat} {c : CarryV} (hc : l[k]? = some c) (e : c.bag ≠ bag) : sinceL s l bag (k + 1) = sinceL s l bag k := by
  rw [sinceL, hc]; dsimp only; rw [if_neg e]
theorem since_yes {s : Str} {l : List CarryV} {bag : Int} {k : Nat} {c : CarryV} (hc : l[k]? = some c) (e : c.bag = bag) : sinceL s l bag (k + 1) = (if c.kind = 2 then sinceL s l bag k else []) ++ [((playB s (l.take (k + 1))).getD bag.toNat bag0).room] := by
  rw [sinceL, hc]; dsimp only; rw [if_pos e]
theorem play_0 {s : Str} {l : List CarryV} (h : playE s l = 0) : strB s = true ∧ logB s l = true ∧ l.length ≤ 64 := by
  unfold playE at h
  by_cases hs : strB s = true
  · rw [if_pos hs] at h
    by_cases hl : logB s l = true
    · have h9 := hl
      unfold logB at h9
      rw [Bool.and_eq_true, decide_eq_true_iff] at h9
      exact ⟨hs, hl, h9.2⟩
    · rw [if_neg hl] at h; omega
  · rw [if_neg hs] at h; omega
theorem flat_len {f : Int → List Nat} (hf : ∀ r, (f r).length ≤ 64) : ∀ l : List Int, (l.flatMap f).length ≤ 64 * l.length
  | [] => Nat.le_refl _
  | r :: l => by
    rw [List.flatMap_cons, List.length_append]
    have := hf r
    have := flat_len hf l
    simp only [List.length_cons]; omega
end Vm
namespace Go.Proofs.YtomidcehahdmbaaGreat
open Go Go.Sx Go.RowKit Vm
theorem ints_app (l m : List Nat) : intsL (l ++ m) = intsL l ++ intsL m := List.map_append
theorem bf_len {l : List BagV} (h : l.length = 32) : (l.flatMap encBa).length = 160 := by rw [flatMap_len encBa 5 enBa_len, h]
theorem bf_one (l : List BagV) : ((l.flatMap encBa).all fun v => v.oneCell') = true := by
  rw [List.all_flatMap, List.all_eq_true]
  exact fun b _ => rfl
theorem bf_at {l : List BagV} (h : l.length = 32) {n : Int} (hn : 0 ≤ n ∧ n ≤ 31) : l[n.toNat]? = some (l.getD n.toNat bag0) := by
  have hlt : n.toNat < l.length := by omega
  rw [List.getD_eq_getElem?_getD, List.getElem?_eq_getElem hlt]; rfl
theorem bf_room {l : List BagV} (h : l.length = 32) {n : Int} (hn : 0 ≤ n ∧ n ≤ 31) : (l.flatMap encBa)[0 + n.toNat * 5]? = some (.int .i64 (l.getD n.toNat bag0).room) := by
  rw [Nat.zero_add]
  exact flatMap_get encBa 5 enBa_len _ _ _ 0 (bf_at h hn) (by omega)
theorem all_eq {l m : List BagV} (hl : l.length = 32) (hm : m.length = 32) : ((List.range 32).all fun i => decide (l.getD i bag0 = m.getD i bag0)) = decide (l = m) := by
  rw [Bool.eq_iff_iff, List.all_eq_true, decide_eq_true_iff]
  constructor
  · intro h
    refine List.ext_getElem (by omega) fun i h1 h2 => ?_
    have h3 := of_decide_eq_true (h i (List.mem_range.2 (by omega)))
    rw [List.getD_eq_getElem?_getD, List.getD_eq_getElem?_getD, List.getElem?_eq_getElem h1, List.getElem?_eq_getElem h2] at h3
    exact h3
  · rintro rfl i _
    exact decide_eq_true rfl
theorem bf_part {l : List BagV} (h : l.length = 32) {i : Nat} (hi : i < 32) : ((l.flatMap encBa).drop (i * 5)).take 5 = encBa (l.getD i bag0) := by
  refine take_tk (tk_bag ?_)
  have hlt : i < l.length := by omega
  rw [List.getD_eq_getElem?_getD, List.getElem?_eq_getElem hlt]; rfl
end Go.Proofs.YtomidcehahdmbaaGreat
namespace Go.Proofs.YtomidcehahdmbaaGreat
open Go.Sx Go.RowKit Vm
set_option maxRecDepth 20000
set_option maxHeartbeats 1600000 in
theorem k_Play (s : StrV) (l : List CarryV) (A : Option Addr) (cc : Nat) (w : World) (hs : StrRd w s) (hl : Rd w 8 encCa A l) : Calls Tryz.prog 5 #[.agg #[.slice s.Ar s.rooms.length s.cr, .slice s.Ag s.gates.length s.cg, .slice s.As s.staff.length s.cs], .slice A l.length cc] w (fun e w' => e = .returned (.tuple #[.agg ((playB s.s l).flatMap encBa).toArray, .int .i64 ((playAt s.s l) : Nat), .int .i64 (playE s.s l)]) ∧ Grow w w') := by
  refine enter_pure (args := [.agg #[.slice s.Ar s.rooms.length s.cr, .slice s.Ag s.gates.length s.cg, .slice s.As s.staff.length s.cs], .slice A l.length cc]) [strF (fun b => b < w.heap.size) s, sl (fun b => b < w.heap.size) 8 encCa A l] Tryz.func5 rfl (by rw [Tryz.ntmps5]; simp) (fun g hg => by
    rcases List.mem_cons.1 hg with rfl | hg
    · exact ⟨str_F hs, fun _ h => h⟩
    · rw [List.mem_singleton.1 hg]; exact ⟨hl, fun _ h => h⟩) ?_
  refine cj_seq (cj_region ?_)
  refine oj_box rfl rfl rfl (fun b2 => ?_)
  refine oj_alloc Tryz.zeroValue31 rfl rfl (fun b4 => ?_)
  refine oj_step (y_assign rfl) rfl rfl rfl ?_
  refine oj_step (y_assign rfl) rfl rfl rfl ?_
  refine oj_nil ?_
  refine ej_th (cj_seq (cj_seq ?_))
  refine cj_eqO [ownB b4 (cellsB 31 ((bags0).flatMap encBa)), ownB b2 (cellsB 26 [.slice s.Ar s.rooms.length s.cr, .slice s.Ag s.gates.length s.cg, .slice s.As s.staff.length s.cs])] rfl ?_
  refine cj_regionG ?_
  refine gj_step (y_loadN Tryz.isAgg26 Tryz.sizeOf26 rfl) rfl rfl rfl (?_)
  refine gj_step (y_call Tryz.call13 rfl (fun w hp => k_Check s w (hs.mono hp.below))) rfl rfl rfl ?_
  refine gj_step (y_assign rfl) rfl rfl rfl (?_)
  refine gj_nil ?_
  refine ej_th (cj_seq ?_)
  refine cj_regionG (gj_step (y_move rfl) rfl rfl rfl (gj_step (y_neq rfl rfl) rfl rfl rfl (gj_nil ?_)))
  refine ej_th ?_
  refine cj_cond rfl (fun h12 => ?_) (fun h12 => ?_)
  · have h12b := h12
    try simp only [sxb] at h12
    obtain ⟨hnb, h40⟩ := strE_f h12
    refine cj_seq (cj_region ?_)
    refine oj_step (y_loadN (hv := tk_all _ (bf_len rfl)) Tryz.isAgg31 Tryz.sizeOf31 rfl) rfl rfl rfl ?_
    refine oj_step (y_move rfl) rfl rfl rfl ?_
    first | refine oj_store (vs := ((bags0).flatMap encBa)) (n := 160) (hset := set_all _ _ rfl) rfl rfl rfl (bf_one _) Tryz.sizeOf31 (bf_len rfl) ?_ | refine oj_store (vs := (((run s.s log0 l).1.bags).flatMap encBa)) (n := 160) (hset := set_all _ _ (by rw [bf_len hl32, bf_len rfl])) rfl rfl rfl (bf_one _) Tryz.sizeOf31 (bf_len hl32) ?_
    refine oj_step (y_assign rfl) rfl rfl rfl ?_
    refine oj_step (y_assign rfl) rfl rfl rfl ?_
    refine oj_nil ?_
    refine ej_th (cj_ret (ej_then_ret ?_))
    exact ej_retC3 rfl Tryz.results5 rfl (y_loadN (hv := tk_all _ (bf_len rfl)) Tryz.isAgg31 Tryz.sizeOf31 rfl) rfl rfl (fun w' hp => ⟨by
      have hE : playE s.s l = 40 := by rw [playE, if_neg (by rw [hnb]; simp)]
      have hA : playAt s.s l = 0 := by rw [playAt, if_neg (by rw [hnb]; simp)]
      rw [playB, if_neg (by rw [hE]; decide), hE, hA, h40]; rfl, hp.below⟩)
  · have h12b := h12
    try simp only [sxb] at h12
    have hb := strE_t (by simpa using h12)
    refine cj_skip (ej_th (cj_seq (cj_seq ?_)))
    refine cj_regionG ?_
    refine gj_step (y_loadN Tryz.isAgg26 Tryz.sizeOf26 rfl) rfl rfl rfl (gj_step (y_move rfl) rfl rfl rfl (?_))
    refine gj_step (y_call Tryz.call14 rfl (fun w hp => k_valid s l A cc w (hs.mono hp.below) hp.rd)) rfl rfl rfl ?_
    refine gj_step (y_not rfl) rfl rfl rfl (?_)
    refine gj_nil ?_
    refine ej_th ?_
    refine cj_cond rfl (fun h18 => ?_) (fun h18 => ?_)
    · have h18b := h18
      try simp only [sxb] at h18
      have hlb := not_t h18b
      refine cj_seq (cj_region ?_)
      refine oj_step (y_loadN (hv := tk_all _ (bf_len rfl)) Tryz.isAgg31 Tryz.sizeOf31 rfl) rfl rfl rfl ?_
      first | refine oj_store (vs := ((bags0).flatMap encBa)) (n := 160) (hset := set_all _ _ rfl) rfl rfl rfl (bf_one _) Tryz.sizeOf31 (bf_len rfl) ?_ | refine oj_store (vs := (((run s.s log0 l).1.bags).flatMap encBa)) (n := 160) (hset := set_all _ _ (by rw [bf_len hl32, bf_len rfl])) rfl rfl rfl (bf_one _) Tryz.sizeOf31 (bf_len hl32) ?_
      refine oj_step (y_assign rfl) rfl rfl rfl ?_
      refine oj_step (y_assign rfl) rfl rfl rfl ?_
      refine oj_nil ?_
      refine ej_th (cj_ret (ej_then_ret ?_))
      exact ej_retC3 rfl Tryz.results5 rfl (y_loadN (hv := tk_all _ (bf_len rfl)) Tryz.isAgg31 Tryz.sizeOf31 rfl) rfl rfl (fun w' hp => ⟨by
        have hE : playE s.s l = 43 := by rw [playE, if_pos hb, if_neg (by rw [hlb]; simp)]
        have hA : playAt s.s l = 0 := by rw [playAt, if_pos hb, if_neg (by rw [hlb]; simp)]
        rw [playB, if_neg (by rw [hE]; decide), hE, hA]; rfl, hp.below⟩)
    · have h18b := h18
      try simp only [sxb] at h18
      have hlb := not_f h18b
      have hall := log_ok hlb
      have hll : l.length ≤ 64 := by
        have h9 := hlb
        unfold logB at h9
        rw [Bool.and_eq_true, decide_eq_true_iff] at h9
        exact h9.2
      have hIr := Inv.run hb l log0 (Inv.start hb) hall
      have hlg := inv_lens hIr
      have hl32 := hlg.b
      have hE : playE s.s l = (run s.s log0 l).2.2 := by rw [playE, if_pos hb, if_pos hlb]
      have hA : playAt s.s l = (run s.s log0 l).2.1 := by rw [playAt, if_pos hb, if_pos hlb]
      refine cj_skip (ej_th (cj_seq (cj_region ?_)))
      refine oj_step (y_loadN Tryz.isAgg26 Tryz.sizeOf26 rfl) rfl rfl rfl ?_
      refine oj_makeMap ekI evB rfl (fun m21 => ?_)
      refine oj_step (y_build (cs := [.slice s.Ar s.rooms.length s.cr, .slice s.Ag s.gates.length s.cg, .slice s.As s.staff.length s.cs, .int .i64 0, .int .i64 0, .int .i64 0, .int .i64 0, .int .i64 0, .int .i64 0, .int .i64 0, .int .i64 0, .int .i64 0, .int .i64 0, .int .i64 0, .int .i64 0, .int .i64 0, .int .i64 0, .int .i64 0, .int .i64 0, .int .i64 0, .int .i64 0, .int .i64 0, .int .i64 0, .int .i64 0, .int .i64 0, .int .i64 0, .int .i64 0, .int .i64 0, .int .i64 0, .int .i64 0, .int .i64 0, .int .i64 0, .int .i64 0, .int .i64 0, .int .i64 0, .int .i64 0, .int .i64 0, .int .i64 0, .int .i64 0, .int .i64 0, .int .i64 0, .int .i64 0, .int .i64 0, .int .i64 0, .int .i64 0, .int .i64 0, .int .i64 0, .int .i64 0, .int .i64 0, .int .i64 0, .int .i64 0, .int .i64 0, .int .i64 0, .int .i64 0, .int .i64 0, .int .i64 0, .int .i64 0, .int .i64 0, .int .i64 0, .int .i64 0, .int .i64 0, .int .i64 0, .int .i64 0, .int .i64 0, .int .i64 0, .int .i64 0, .int .i64 0, .int .i64 0, .int .i64 0, .int .i64 0, .int .i64 0, .int .i64 0, .int .i64 0, .int .i64 0, .int .i64 0, .int .i64 0, .int .i64 0, .int .i64 0, .int .i64 0, .int .i64 0, .int .i64 0, .int .i64 0, .int .i64 0, .int .i64 0, .int .i64 0, .int .i64 0, .int .i64 0, .int .i64 0, .int .i64 0, .int .i64 0, .int .i64 0, .int .i64 0, .int .i64 0, .int .i64 0, .int .i64 0, .int .i64 0, .int .i64 0, .int .i64 0, .int .i64 0, .int .i64 0, .int .i64 0, .int .i64 0, .int .i64 0, .int .i64 0, .int .i64 0, .int .i64 0, .int .i64 0, .int .i64 0, .int .i64 0, .int .i64 0, .int .i64 0, .int .i64 0, .int .i64 0, .int .i64 0, .int .i64 0, .int .i64 0, .int .i64 0, .int .i64 0, .int .i64 0, .int .i64 0, .int .i64 0, .int .i64 0, .int .i64 0, .int .i64 0, .int .i64 0, .int .i64 0, .int .i64 0, .int .i64 0, .int .i64 0, .int .i64 0, .int .i64 0, .int .i64 0, .int .i64 0, .int .i64 0, .int .i64 0, .int .i64 0, .int .i64 0, .int .i64 0, .int .i64 0, .int .i64 0, .int .i64 0, .int .i64 0, .int .i64 0, .int .i64 0, .int .i64 0, .int .i64 0, .int .i64 0, .int .i64 0, .int .i64 0, .int .i64 0, .int .i64 0, .int .i64 0, .int .i64 0, .int .i64 0, .int .i64 0, .int .i64 0, .int .i64 0, .int .i64 0, .int .i64 0, .int .i64 0, .int .i64 0, .int .i64 0, .int .i64 0, .bool false, .bool false, .bool false, .bool false, .bool false, .bool false, .bool false, .bool false, .bool false, .bool false, .bool false, .bool false, .bool false, .bool false, .bool false, .bool false, .bool false, .bool false, .bool false, .bool false, .bool false, .bool false, .bool false, .bool false, .bool false, .bool false, .bool false, .bool false, .bool false, .bool false, .bool false, .bool false, .map (some m21)]) st49 rfl (by kernel_rfl)) rfl rfl rfl ?_
      refine oj_box rfl rfl rfl (fun b23 => ?_)
      refine oj_step (y_assign rfl) rfl rfl rfl ?_
      refine oj_nil ?_
      refine ej_th (cj_seq ?_)
      refine cj_eqO [logB1 b23 s m21 log0, mp ekI evB m21 (sealL log0.seals), ownB b4 (cellsB 31 ((bags0).flatMap encBa)), ownB b2 (cellsB 26 [.slice s.Ar s.rooms.length s.cr, .slice s.Ag s.gates.length s.cg, .slice s.As s.staff.length s.cs])] rfl ?_
      refine cj_region ?_
      refine oj_step (y_move rfl) rfl rfl rfl ?_
      refine oj_step (y_move rfl) rfl rfl rfl ?_
      refine oj_callL (X := Unit) (fun _ => .tuple #[.int .i64 ((run s.s log0 l).2.1 : Nat), .int .i64 (run s.s log0 l).2.2]) (lgF b23 m21 s log0) (fun _ => lgF b23 m21 s (run s.s log0 l).1) Tryz.call15 rfl rfl (fun w1 hp => by
        obtain ⟨q1, q2, q3⟩ := hp.ownL (Os := lgF b23 m21 s log0) inferInstance
        exact k_done s log0 l A cc b23 m21 _ _ w1 hb hall hll (Inv.start hb) q1 q2 q3) rfl (fun _ => ?_)
      dsimp only [lgF, List.cons_append, List.nil_append]
      refine oj_step (y_move rfl) rfl rfl rfl ?_
      refine oj_step (y_extract rfl rfl) rfl rfl rfl ?_
      refine oj_step (y_extract rfl rfl) rfl rfl rfl ?_
      refine oj_step (y_assign rfl) rfl rfl rfl ?_
      refine oj_step (y_assign rfl) rfl rfl rfl ?_
      refine oj_nil ?_
      refine ej_th (cj_seq (cj_seq ?_))
      refine cj_regionG (gj_step (y_move rfl) rfl rfl rfl (gj_step (y_neq rfl rfl) rfl rfl rfl (gj_nil ?_)))
      refine ej_th ?_
      refine cj_cond rfl (fun h31 => ?_) (fun h31 => ?_)
      · have h31b := h31
        try simp only [sxb] at h31
        refine cj_seq (cj_region ?_)
        refine oj_step (y_loadN (hv := tk_all _ (bf_len rfl)) Tryz.isAgg31 Tryz.sizeOf31 rfl) rfl rfl rfl ?_
        refine oj_step (y_move rfl) rfl rfl rfl ?_
        refine oj_step (y_move rfl) rfl rfl rfl ?_
        first | refine oj_store (vs := ((bags0).flatMap encBa)) (n := 160) (hset := set_all _ _ rfl) rfl rfl rfl (bf_one _) Tryz.sizeOf31 (bf_len rfl) ?_ | refine oj_store (vs := (((run s.s log0 l).1.bags).flatMap encBa)) (n := 160) (hset := set_all _ _ (by rw [bf_len hl32, bf_len rfl])) rfl rfl rfl (bf_one _) Tryz.sizeOf31 (bf_len hl32) ?_
        refine oj_step (y_assign rfl) rfl rfl rfl ?_
        refine oj_step (y_assign rfl) rfl rfl rfl ?_
        refine oj_nil ?_
        refine ej_th (cj_ret (ej_then_ret ?_))
        exact ej_retC3 rfl Tryz.results5 rfl (y_loadN (hv := tk_all _ (bf_len rfl)) Tryz.isAgg31 Tryz.sizeOf31 rfl) rfl rfl (fun w' hp => ⟨by
          rw [playB, if_neg (by rw [hE]; exact h31), hE, hA]; try rfl, hp.below⟩)
      · have h31b := h31
        try simp only [sxb] at h31
        refine cj_skip (ej_th (cj_seq (cj_region ?_)))
        refine oj_step (y_move rfl) rfl rfl rfl ?_
        refine oj_step (y_nil rfl) rfl rfl rfl ?_
        refine oj_step (y_fa fa49_1 rfl) rfl rfl rfl ?_
        refine oj_step (y_loadN (hv := tk_bags hlg) Tryz.isAgg31 Tryz.sizeOf31 rfl) rfl rfl rfl ?_
        refine oj_step (y_move rfl) rfl rfl rfl ?_
        first | refine oj_store (vs := ((bags0).flatMap encBa)) (n := 160) (hset := set_all _ _ rfl) rfl rfl rfl (bf_one _) Tryz.sizeOf31 (bf_len rfl) ?_ | refine oj_store (vs := (((run s.s log0 l).1.bags).flatMap encBa)) (n := 160) (hset := set_all _ _ (by rw [bf_len hl32, bf_len rfl])) rfl rfl rfl (bf_one _) Tryz.sizeOf31 (bf_len hl32) ?_
        refine oj_step (y_assign rfl) rfl rfl rfl ?_
        refine oj_step (y_assign rfl) rfl rfl rfl ?_
        refine oj_nil ?_
        refine ej_th (cj_ret ?_)
        exact ej_retC3 rfl Tryz.results5 rfl (y_loadN (hv := tk_all _ (bf_len hl32)) Tryz.isAgg31 Tryz.sizeOf31 rfl) rfl rfl (fun w' hp => ⟨by
          rw [playB, if_pos (by rw [hE]; simpa using h31), hE, hA, show (run s.s log0 l).2.2 = 0 by simpa using h31]; try rfl, hp.below⟩)

end Go.Proofs.YtomidcehahdmbaaGreat
namespace Go.Proofs.YtomidcehahdmbaaGreat
open Go.Sx Go.RowKit Vm
set_option maxRecDepth 20000
theorem eq_bag (b c : BagV) (d : Nat) (w : World) : (Op.equalIn (d + 2) 30 (.agg (encBa b).toArray) (.agg (encBa c).toArray)).run Tryz.prog w = .ok (decide (b = c)) w := by
  have h : (decide (b = c)) = ((b.room == c.room) && (b.mark == c.mark) && (b.suits == c.suits) && (b.by_ == c.by_) && (b.with_ == c.with_)) := by
    obtain ⟨b1, b2, b3, b4, b5⟩ := b
    obtain ⟨c1, c2, c3, c4, c5⟩ := c
    rw [Bool.eq_iff_iff, decide_eq_true_iff]
    simp [BagV.mk.injEq, and_assoc]
  rw [h]
  have u := Tryz.underlying3
  simp [go_sem, Tryz.stoodInHeld30, Tryz.underlying30, Tryz.underlying3]
  try ((repeat' split) <;> simp_all)
theorem eq_bags {l m : List BagV} (hl : l.length = 32) (hm : m.length = 32) (x y : Operand) (w : World) : (do eqGuard .eql 31 x y (.agg (l.flatMap encBa).toArray) (.agg (m.flatMap encBa).toArray); binOp .eql 31 (.agg (l.flatMap encBa).toArray) (.agg (m.flatMap encBa).toArray) : Sem Value).run Tryz.prog w = .ok (.bool (decide (l = m))) w := by
  have h1 := run_eq_arr (P := Tryz.prog) (xs := (l.flatMap encBa).toArray) (ys := (m.flatMap encBa).toArray) (d := 9999) (fun i => decide (l.getD i bag0 = m.getD i bag0)) Tryz.underlying31 Tryz.sizeOf30 (fun i hi w => ⟨.agg (encBa (l.getD i bag0)).toArray, .agg (encBa (m.getD i bag0)).toArray, by simp [part, Tryz.isAgg30, Tryz.sizeOf30, bf_part hl hi], by simp [part, Tryz.isAgg30, Tryz.sizeOf30, bf_part hm hi], eq_bag _ _ 9997 w⟩) w
  rw [all_eq hl hm] at h1
  rw [Sem.run_bind, run_eqGuard_agg w .eql 31 x y _ _ Tryz.eqGuardType31, Result.andThen_ok, run_eql_struct, h1]; rfl

theorem k_IndexC (l : List CarryV) (A : Option Addr) (c : Nat) (f : Nat) (ca : Array Value) (q : CarryV → Bool) (w : World) (hl : Rd w 8 encCa A l) (hen : ∀ args w, (callFunc f args).run Tryz.prog w = .ok (.enter f args) w) (hpp : ∀ x ∈ l, ∀ w1, Grow w w1 → Calls Tryz.prog f (#[] ++ [.agg #[.int .i64 x.day, .int .i64 x.kind, .int .i64 x.bag, .int .i64 x.to_, .int .i64 x.by_, .int .i64 x.with_, .int .i64 x.mark, .int .i64 x.suits]].toArray ++ ca) w1 (fun e w2 => e = .returned (.bool (q x)) ∧ Grow w1 w2)) : Calls Tryz.prog 18 #[.slice A l.length c, .func (.func f) #[] ca] w (fun e w' => e = .returned (.int .i64 (fidx q l 0)) ∧ Grow w w') := by
  have hlen := hl.len
  refine enter_pure (args := [.slice A l.length c, .func (.func f) #[] ca]) [sl (fun b => b < w.heap.size) 8 encCa A l] Tryz.func18 rfl (by rw [Tryz.ntmps18]; simp) (fun g hg => by simp at hg; subst hg; exact ⟨hl, fun _ h => h⟩) ?_
  refine cj_seq ?_
  refine cj_regionG (gj_step (y_assign rfl) rfl rfl rfl (gj_nil ?_))
  refine ej_th (cj_seq (cj_seq ?_))
  refine cj_regionG (gj_step (y_move rfl) rfl rfl rfl (gj_step (y_lenA Tryz.underlying27 rfl) rfl rfl rfl (gj_step (y_move rfl) rfl rfl rfl (gj_nil ?_))))
  refine ej_th (cj_block ?_)
  refine cj_lpic (X := Nat) [(0, _), (1, _), (7, _)] (fun k => k ≤ l.length ∧ fidx q (l.drop k) k = fidx q l 0) (fun k => [(8, .int .i64 k)]) (fun k => l.length - k) 0 (⟨Nat.zero_le _, rfl⟩) ⟨rfl, rfl, rfl, rfl, trivial⟩ ?_
  rintro k ⟨hk, hsk⟩
  dsimp only [List.cons_append, List.nil_append]
  refine cj_seq ?_
  refine cj_regionG (gj_step (y_lss rfl rfl) rfl rfl rfl (gj_nil ?_))
  refine ej_th (cj_seq ?_)
  refine cj_cond rfl (fun h9 => ?_) (fun h9 => ?_)
  · have h9b := h9
    try simp only [sxb] at h9
    obtain ⟨x, hx⟩ : ∃ x, l[k]? = some x := ⟨_, List.getElem?_eq_getElem (by omega)⟩
    rw [fidx_drop q l k x hx] at hsk
    refine cj_skip (ej_th (cj_seq (cj_block (cj_seq ?_))))
    refine cj_regionG (gj_step (y_move rfl) rfl rfl rfl (gj_step (y_assign rfl) rfl rfl rfl (gj_nil ?_)))
    refine ej_th (cj_seq ?_)
    refine cj_regionG ?_
    refine gj_step (y_move rfl) rfl rfl rfl (gj_step (y_move rfl) rfl rfl rfl (gj_step (y_move rfl) rfl rfl rfl (gj_step (y_ixR (reads_sl) Tryz.underlying27 Tryz.sizeOf60 rfl rfl (⟨by omega, by omega⟩)) rfl rfl rfl (gj_step (y_ldW (reads_sl) Tryz.isAgg60 Tryz.sizeOf60 rfl (hx) (fun _ => rfl)) rfl rfl rfl (?_)))))
    refine gj_step (y_callV hen rfl rfl (fun w1 hp => hpp x (List.mem_of_getElem? hx) w1 hp.below)) rfl rfl rfl ?_
    refine gj_nil ?_
    refine ej_th ?_
    refine cj_cond rfl (fun h16 => ?_) (fun h16 => ?_)
    · have h16b := h16
      try simp only [sxb] at h16
      refine cj_seq ?_
      refine cj_regionG (gj_step (y_move rfl) rfl rfl rfl (gj_step (y_assign rfl) rfl rfl rfl (gj_nil ?_)))
      refine ej_th (cj_ret (ej_blk_ret (ej_then_ret (ej_then_ret (ej_blk_ret (ej_then_ret ?_))))))
      refine ej_ret1 rfl Tryz.results18 rfl (fun w' hp => ⟨?_, hp.below⟩)
      rw [← hsk, if_pos h16b]
    · have h16b := h16
      try simp only [sxb] at h16
      refine cj_skip (ej_blk (ej_th ?_))
      refine cj_regionG (gj_step (y_add rfl rfl (by omega)) rfl rfl rfl (gj_step (y_move rfl) rfl rfl rfl (gj_nil ?_)))
      exact ej_nx (k + 1) (by omega) ⟨by omega, by rw [← hsk, if_neg (by rw [h16b]; simp)]⟩ ⟨rfl, rfl, rfl, rfl, trivial⟩
  · have h9b := h9
    try simp only [sxb] at h9
    refine cj_exit (ej_then_exit (ej_then_exit (ej_blk_hit (ej_th (cj_seq ?_)))))
    refine cj_regionG (gj_step (y_assign rfl) rfl rfl rfl (gj_nil ?_))
    refine ej_th (cj_ret ?_)
    refine ej_ret1 rfl Tryz.results18 rfl (fun w' hp => ⟨?_, hp.below⟩)
    rw [← hsk, List.drop_of_length_le (by omega)]; rfl

theorem k_wh1 (c : CarryV) (day : Int) (bd : Nat) (w : World) (hbd : (ownB bd (cellsB 3 [.int .i64 day])).P w) : Calls Tryz.prog 19 #[.agg #[.int .i64 c.day, .int .i64 c.kind, .int .i64 c.bag, .int .i64 c.to_, .int .i64 c.by_, .int .i64 c.with_, .int .i64 c.mark, .int .i64 c.suits], .pointer (some ⟨bd, 0, none⟩)] w (fun e w' => e = .returned (.bool (decide (day < c.day))) ∧ Grow w w') := by
  refine enter_pure (args := [.agg #[.int .i64 c.day, .int .i64 c.kind, .int .i64 c.bag, .int .i64 c.to_, .int .i64 c.by_, .int .i64 c.with_, .int .i64 c.mark, .int .i64 c.suits], .pointer (some ⟨bd, 0, none⟩)]) [ownB bd (cellsB 3 [.int .i64 day])] Tryz.func19 rfl (by rw [Tryz.ntmps19]; simp) (fun f hf => by
    simp only [List.mem_cons, List.mem_nil_iff, or_false] at hf
    rcases hf with rfl
    · exact ⟨hbd, fun i hi => by have : i = bd := hi; subst this; exact (Array.getElem?_eq_some_iff.1 hbd).1⟩) ?_
  refine cj_seq (cj_region ?_)
  refine oj_box rfl rfl rfl (fun b2 => ?_)
  refine oj_step (y_assign rfl) rfl rfl rfl ?_
  refine oj_nil ?_
  refine ej_th (cj_seq ?_)
  refine cj_regionG (gj_step (y_fa0 fa60_0 rfl) rfl rfl rfl (gj_step (y_load1 Tryz.isAgg3 rfl rfl) rfl rfl rfl (gj_step (y_loadS1 Tryz.isAgg3 rfl rfl) rfl rfl rfl (gj_step (y_gtr rfl rfl) rfl rfl rfl (gj_step (y_assign rfl) rfl rfl rfl (gj_nil ?_))))))
  refine ej_th (cj_ret ?_)
  exact ej_ret1 rfl Tryz.results19 rfl (fun w' hp => ⟨rfl, hp.below⟩)

set_option maxHeartbeats 1600000 in
theorem k_Where (s : StrV) (l : List CarryV) (A : Option Addr) (cc : Nat) (bag day : Int) (w : World) (hs : StrRd w s) (hl : Rd w 8 encCa A l) (hcap : l.length ≤ cc) : Calls Tryz.prog 7 #[.agg #[.slice s.Ar s.rooms.length s.cr, .slice s.Ag s.gates.length s.cg, .slice s.As s.staff.length s.cs], .slice A l.length cc, .int .i64 bag, .int .i64 day] w (fun e w' => e = .returned (.tuple #[.int .i64 (whereR s.s l bag day), .int .i64 (whereE s.s l bag day)]) ∧ Grow w w') := by
  have hll := hl.len
  have hup := upto_le l day
  have hpl := playB_len (s := s.s) l
  have hpl2 := playB_len (s := s.s) (l.take (uptoN l day))
  refine enter_pure (args := [.agg #[.slice s.Ar s.rooms.length s.cr, .slice s.Ag s.gates.length s.cg, .slice s.As s.staff.length s.cs], .slice A l.length cc, .int .i64 bag, .int .i64 day]) [sl (fun b => b < w.heap.size) 3 encRo s.Ar s.rooms, sl (fun b => b < w.heap.size) 4 encGa s.Ag s.gates, sl (fun b => b < w.heap.size) 1 enInt s.As s.staff, sl (fun b => b < w.heap.size) 8 encCa A l] Tryz.func7 rfl (by rw [Tryz.ntmps7]; simp) (fun g hg => by simp at hg; rcases hg with rfl | rfl | rfl | rfl; exact ⟨hs.rooms, fun _ h => h⟩; exact ⟨hs.gates, fun _ h => h⟩; exact ⟨hs.staff, fun _ h => h⟩; exact ⟨hl, fun _ h => h⟩) ?_
  refine cj_seq (cj_region ?_)
  refine oj_box rfl rfl rfl (fun b4 => ?_)
  refine oj_box rfl rfl rfl (fun b7 => ?_)
  refine oj_step (y_assign rfl) rfl rfl rfl ?_
  refine oj_step (y_assign rfl) rfl rfl rfl ?_
  refine oj_nil ?_
  refine ej_th (cj_seq (cj_seq (cj_region ?_)))
  refine oj_step (y_loadN Tryz.isAgg26 Tryz.sizeOf26 rfl) rfl rfl rfl ?_
  refine oj_step (y_move rfl) rfl rfl rfl ?_
  refine oj_step (y_call Tryz.call5 rfl (fun w hp => k_Play s l A cc w (hs.mono hp.below) hp.rd)) rfl rfl rfl ?_
  refine oj_step (y_move rfl) rfl rfl rfl ?_
  refine oj_step (y_extract rfl rfl) rfl rfl rfl ?_
  refine oj_step (y_extract rfl rfl) rfl rfl rfl ?_
  refine oj_step (y_extract rfl rfl) rfl rfl rfl ?_
  refine oj_alloc Tryz.zeroValue31 rfl rfl (fun b10 => ?_)
  refine oj_store (vs := ((playB s.s l).flatMap encBa)) (n := 160) (hset := set_all _ _ (by rw [bf_len hpl]; rfl)) rfl rfl rfl (bf_one _) Tryz.sizeOf31 (bf_len hpl) ?_
  refine oj_step (y_assign rfl) rfl rfl rfl ?_
  refine oj_step (y_assign rfl) rfl rfl rfl ?_
  refine oj_nil ?_
  refine ej_th (cj_seq ?_)
  refine cj_regionG (gj_step (y_move rfl) rfl rfl rfl (gj_step (y_neq rfl rfl) rfl rfl rfl (gj_nil ?_)))
  refine ej_th ?_
  refine cj_cond rfl (fun h25 => ?_) (fun h25 => ?_)
  · have h25b := h25
    try simp only [sxb] at h25
    have hE : whereE s.s l bag day = playE s.s l := by rw [whereE, if_neg h25]
    have hR : whereR s.s l bag day = 0 := by rw [whereR, hE, if_neg h25]
    refine cj_seq ?_
    refine cj_regionG (gj_step (y_move rfl) rfl rfl rfl (gj_step (y_assign rfl) rfl rfl rfl (gj_step (y_assign rfl) rfl rfl rfl (gj_nil ?_))))
    refine ej_th (cj_ret (ej_then_ret ?_))
    exact ej_ret2 rfl Tryz.results7 rfl rfl (fun w' hp => ⟨by rw [hE, hR], hp.below⟩)
  · have h25b := h25
    try simp only [sxb] at h25
    have h0 : playE s.s l = 0 := by simpa using h25
    refine cj_skip (ej_th (cj_seq (cj_seq ?_)))
    refine cj_regionG ?_
    refine gj_step (y_move rfl) rfl rfl rfl (?_)
    refine gj_step (y_call Tryz.call17 rfl (fun w hp => k_within _ _ _ w)) rfl rfl rfl ?_
    refine gj_step (y_not rfl) rfl rfl rfl (gj_step (y_move rfl) rfl rfl rfl (?_))
    refine gj_g 3 30 33 rfl rfl rfl rfl (fun hg30 => gj_yes rfl rfl rfl (y_load1 Tryz.isAgg3 rfl rfl) rfl rfl (gj_yes rfl rfl rfl (y_call Tryz.call17 rfl (fun w hp => k_within _ _ _ w)) rfl rfl (gj_yes rfl rfl rfl (y_not rfl) rfl rfl (gj_nil rfl)))) ?_
    refine gj_step (y_or rfl rfl rfl) rfl rfl rfl (?_)
    refine gj_nil ?_
    refine ej_th ?_
    refine cj_cond rfl (fun h34 => ?_) (fun h34 => ?_)
    · have h34b := h34
      try simp only [sxb] at h34
      have hE : whereE s.s l bag day = 7 := by
        rw [whereE, if_pos h0, if_neg]
        intro h9
        rw [Bool.and_eq_true] at h9
        rw [h9.1, h9.2] at h34b; cases h34b
      have hR : whereR s.s l bag day = 0 := by rw [whereR, hE, if_neg (by decide)]
      refine cj_seq ?_
      refine cj_regionG (gj_step (y_assign rfl) rfl rfl rfl (gj_step (y_assign rfl) rfl rfl rfl (gj_nil ?_)))
      refine ej_th (cj_ret (ej_then_ret ?_))
      exact ej_ret2 rfl Tryz.results7 rfl rfl (fun w' hp => ⟨by rw [hE, hR], hp.below⟩)
    · have h34b := h34
      try simp only [sxb] at h34
      rw [Bool.or_eq_false_iff] at h34b
      have hb1 := not_f h34b.1
      have hb2 := not_f h34b.2
      have hbg := btw_t.1 hb1
      have hE : whereE s.s l bag day = 0 := by rw [whereE, if_pos h0, if_pos (by rw [hb1, hb2]; rfl)]
      have hR : whereR s.s l bag day = ((playB s.s (l.take (uptoN l day))).getD bag.toNat bag0).room := by rw [whereR, if_pos hE]
      refine cj_skip (ej_th (cj_seq ?_))
      refine cj_regionG ?_
      refine gj_step (y_move rfl) rfl rfl rfl (gj_step (y_makeFunc rfl rfl) rfl rfl rfl (?_))
      refine gj_step (y_call Tryz.call18 rfl (fun w hp => k_IndexC l A cc 19 #[.pointer (some ⟨b7, 0, none⟩)] (fun c => decide (day < c.day)) w hp.rd Tryz.call19 (fun x hx w1 hg => k_wh1 x day b7 w1 ((hp.grow hg).own1)))) rfl rfl rfl ?_
      refine gj_step (y_assign rfl) rfl rfl rfl (?_)
      refine gj_nil ?_
      refine ej_th ?_
      refine cj_cutic (X := Nat) [(1, _), (2, _), (4, _), (8, _), (9, _)] ⟨rfl, rfl, rfl, rfl, rfl, trivial⟩ (fun x => x = uptoN l day) (fun x => [(13, .int .i64 (x : Nat))]) ?_ ?_
      · refine cj_seq ?_
        refine cj_regionG (gj_step (y_move rfl) rfl rfl rfl (gj_step (y_lss rfl rfl) rfl rfl rfl (gj_nil ?_)))
        refine ej_th ?_
        refine cj_cond rfl (fun h39 => ?_) (fun h39 => ?_)
        · have h39b := h39
          try simp only [sxb] at h39
          refine cj_regionG (gj_step (y_move rfl) rfl rfl rfl (gj_step (y_lenA Tryz.underlying27 rfl) rfl rfl rfl (gj_step (y_assign rfl) rfl rfl rfl (gj_nil ?_))))
          exact ej_ct l.length (by rw [uptoN, if_pos (show afterI l day < 0 from h39)]) ⟨rfl, rfl, rfl, rfl, rfl, rfl, trivial⟩
        · have h39b := h39
          try simp only [sxb] at h39
          refine cj_skip ?_
          rw [show fidx (fun c : CarryV => decide (day < c.day)) l 0 = ((uptoN l day : Nat) : Int) by
            have h9 : ¬ afterI l day < 0 := by show ¬ fidx (fun c : CarryV => decide (day < c.day)) l 0 < 0; omega
            rw [uptoN, if_neg h9]; show afterI l day = _; omega]
          exact ej_ct (uptoN l day) rfl ⟨rfl, rfl, rfl, rfl, rfl, rfl, trivial⟩
      · rintro x rfl
        dsimp only [List.cons_append, List.nil_append]
        refine cj_seq ?_
        refine cj_plan 13 (by kernel_rfl) (by kernel_rfl) ?_
        refine pl_y 0 rfl (y_loadN Tryz.isAgg26 Tryz.sizeOf26 rfl) rfl rfl rfl rfl (by kernel_rfl) ?_
        refine pl_y 1 rfl (y_move rfl) rfl rfl rfl rfl (by kernel_rfl) ?_
        refine pl_y 2 rfl (y_move rfl) rfl rfl rfl rfl (by kernel_rfl) ?_
        refine pl_y 3 rfl (y_sliceTo (xs := l) (uptoN l day) Tryz.underlying27 Tryz.sizeOf60 rfl rfl hup hcap) rfl rfl rfl rfl (by kernel_rfl) ?_
        refine pl_y 4 rfl (y_call Tryz.call5 rfl (fun w hp => k_Play s (l.take (uptoN l day)) A cc w (hs.mono hp.below) (sl_take (hl.mono hp.below) _))) rfl rfl rfl rfl (by kernel_rfl) ?_
        refine pl_y 5 rfl (y_move rfl) rfl rfl rfl rfl (by kernel_rfl) ?_
        refine pl_y 6 rfl (y_extract rfl rfl) rfl rfl rfl rfl (by kernel_rfl) ?_
        refine pl_y 7 rfl (y_extract rfl rfl) rfl rfl rfl rfl (by kernel_rfl) ?_
        refine pl_y 8 rfl (y_extract rfl rfl) rfl rfl rfl rfl (by kernel_rfl) ?_
        refine pl_w1 9 (by kernel_rfl) rfl rfl (pl_fire rfl rfl rfl (by kernel_rfl) ?_)
        refine oj_alloc Tryz.zeroValue31 rfl rfl (fun b14 => ?_)
        refine oj_nil ?_
        refine ej_pl (lt_y (y_extract rfl rfl) rfl (lt_y (y_extract rfl rfl) rfl (lt_y (y_extract rfl rfl) rfl (lt_y (y_move rfl) rfl (lt_y (y_call Tryz.call5 rfl (fun w hp => k_Play s (l.take (uptoN l day)) A cc w (hs.mono hp.below) (sl_take (hl.mono hp.below) _))) rfl (lt_y (y_sliceTo (xs := l) (uptoN l day) Tryz.underlying27 Tryz.sizeOf60 rfl rfl hup hcap) rfl (lt_y (y_move rfl) rfl (lt_y (y_move rfl) rfl (lt_y (y_loadN Tryz.isAgg26 Tryz.sizeOf26 rfl) rfl (lt_nil)))))))))) ?_
        refine pl_w1 10 (by kernel_rfl) rfl rfl (pl_fire rfl rfl rfl (by kernel_rfl) ?_)
        refine oj_store (vs := ((playB s.s (l.take (uptoN l day))).flatMap encBa)) (n := 160) (hset := set_all _ _ (by rw [bf_len hpl2]; rfl)) rfl rfl rfl (bf_one _) Tryz.sizeOf31 (bf_len hpl2) ?_
        refine oj_nil ?_
        refine ej_pl (lt_y (y_extract rfl rfl) rfl (lt_y (y_extract rfl rfl) rfl (lt_w (by kernel_rfl) (lt_w (by kernel_rfl) (lt_w (by kernel_rfl) (lt_w (by kernel_rfl) (lt_w (by kernel_rfl) (lt_w (by kernel_rfl) (lt_w (by kernel_rfl) (lt_nil)))))))))) ?_
        refine pl_y 11 rfl (y_assign rfl) rfl rfl rfl rfl (by kernel_rfl) ?_
        refine pl_y 12 rfl (y_assign rfl) rfl rfl rfl rfl (by kernel_rfl) ?_
        refine pl_end (by kernel_rfl) ?_
        refine ej_th (cj_seq ?_)
        refine cj_regionG (gj_step (y_move rfl) rfl rfl rfl (gj_step (y_ixArr Tryz.underlying31 Tryz.sizeOf30 rfl rfl (by omega)) rfl rfl rfl (gj_step (y_fa0 fa30_0 rfl) rfl rfl rfl (gj_step (y_load1 Tryz.isAgg3 rfl (bf_room hpl2 hbg)) rfl rfl rfl (gj_step (y_assign rfl) rfl rfl rfl (gj_step (y_assign rfl) rfl rfl rfl (gj_nil ?_)))))))
        refine ej_th (cj_ret ?_)
        exact ej_ret2 rfl Tryz.results7 rfl rfl (fun w' hp => ⟨by rw [hE, hR], hp.below⟩)

end Go.Proofs.YtomidcehahdmbaaGreat
namespace Go.Proofs.YtomidcehahdmbaaGreat
open Go.Sx Go.RowKit Vm
set_option maxRecDepth 20000
set_option maxHeartbeats 3200000 in
theorem k_Suspects (s : StrV) (l : List CarryV) (A : Option Addr) (cc : Nat) (bag : Int) (w : World) (hs : StrRd w s) (hl : Rd w 8 encCa A l) (hcap : l.length ≤ cc) : Calls Tryz.prog 10 #[.agg #[.slice s.Ar s.rooms.length s.cr, .slice s.Ag s.gates.length s.cg, .slice s.As s.staff.length s.cs], .slice A l.length cc, .int .i64 bag] w (fun e w' => ∃ A c, e = .returned (.tuple #[.slice A (intsL (suspV s.s l bag)).length c, .int .i64 (suspE s.s l bag)]) ∧ Grow w w' ∧ Res w w' 1 enInt A (intsL (suspV s.s l bag))) := by
  have hll := hl.len
  have hpl := playB_len (s := s.s) l
  refine enter_pure (args := [.agg #[.slice s.Ar s.rooms.length s.cr, .slice s.Ag s.gates.length s.cg, .slice s.As s.staff.length s.cs], .slice A l.length cc, .int .i64 bag]) [sl (fun b => b < w.heap.size) 3 encRo s.Ar s.rooms, sl (fun b => b < w.heap.size) 4 encGa s.Ag s.gates, sl (fun b => b < w.heap.size) 1 enInt s.As s.staff, sl (fun b => b < w.heap.size) 8 encCa A l] Tryz.func10 rfl (by rw [Tryz.ntmps10]; simp) (fun g hg => by simp at hg; rcases hg with rfl | rfl | rfl | rfl; exact ⟨hs.rooms, fun _ h => h⟩; exact ⟨hs.gates, fun _ h => h⟩; exact ⟨hs.staff, fun _ h => h⟩; exact ⟨hl, fun _ h => h⟩) ?_
  refine cj_seq (cj_region ?_)
  refine oj_box rfl rfl rfl (fun b3 => ?_)
  refine oj_step (y_assign rfl) rfl rfl rfl ?_
  refine oj_step (y_assign rfl) rfl rfl rfl ?_
  refine oj_nil ?_
  refine ej_th (cj_seq (cj_region ?_))
  refine oj_step (y_loadN Tryz.isAgg26 Tryz.sizeOf26 rfl) rfl rfl rfl ?_
  refine oj_step (y_move rfl) rfl rfl rfl ?_
  refine oj_step (y_call Tryz.call5 rfl (fun w hp => k_Play s l A cc w (hs.mono hp.below) hp.rd)) rfl rfl rfl ?_
  refine oj_step (y_move rfl) rfl rfl rfl ?_
  refine oj_step (y_extract rfl rfl) rfl rfl rfl ?_
  refine oj_step (y_extract rfl rfl) rfl rfl rfl ?_
  refine oj_step (y_extract rfl rfl) rfl rfl rfl ?_
  refine oj_alloc Tryz.zeroValue31 rfl rfl (fun b8 => ?_)
  refine oj_store (vs := ((playB s.s l).flatMap encBa)) (n := 160) (hset := set_all _ _ (by rw [bf_len hpl]; rfl)) rfl rfl rfl (bf_one _) Tryz.sizeOf31 (bf_len hpl) ?_
  refine oj_step (y_assign rfl) rfl rfl rfl ?_
  refine oj_step (y_assign rfl) rfl rfl rfl ?_
  refine oj_nil ?_
  refine ej_th (cj_seq (cj_seq ?_))
  refine cj_regionG (gj_step (y_move rfl) rfl rfl rfl (gj_step (y_neq rfl rfl) rfl rfl rfl (gj_nil ?_)))
  refine ej_th ?_
  refine cj_cond rfl (fun h28 => ?_) (fun h28 => ?_)
  · have h28b := h28
    try simp only [sxb] at h28
    have hE : suspE s.s l bag = playE s.s l := by rw [suspE, if_neg h28]
    have hV : suspV s.s l bag = [] := by rw [suspV, hE, if_neg h28]
    refine cj_seq ?_
    refine cj_regionG (gj_step (y_move rfl) rfl rfl rfl (gj_step (y_assign rfl) rfl rfl rfl (gj_step (y_assign rfl) rfl rfl rfl (gj_nil ?_))))
    refine ej_th (cj_ret (ej_then_ret ?_))
    exact ej_ret2 rfl Tryz.results10 rfl rfl (fun w' hp => ⟨none, 0, by rw [hV, hE]; rfl, hp.below, by rw [hV]; exact Res.nil⟩)
  · have h28b := h28
    try simp only [sxb] at h28
    have h0 : playE s.s l = 0 := by simpa using h28
    obtain ⟨hb, hlb, hl64⟩ := play_0 h0
    refine cj_skip (ej_th (cj_seq (cj_seq ?_)))
    refine cj_regionG ?_
    refine gj_step (y_move rfl) rfl rfl rfl (?_)
    refine gj_step (y_call Tryz.call17 rfl (fun w hp => k_within _ _ _ w)) rfl rfl rfl ?_
    refine gj_step (y_not rfl) rfl rfl rfl (?_)
    refine gj_nil ?_
    refine ej_th ?_
    refine cj_cond rfl (fun h32 => ?_) (fun h32 => ?_)
    · have h32b := h32
      try simp only [sxb] at h32
      have hE : suspE s.s l bag = 7 := by rw [suspE, if_pos h0, if_neg (by rw [not_t h32b]; simp)]
      have hV : suspV s.s l bag = [] := by rw [suspV, hE]; rfl
      refine cj_seq ?_
      refine cj_regionG (gj_step (y_assign rfl) rfl rfl rfl (gj_step (y_assign rfl) rfl rfl rfl (gj_nil ?_)))
      refine ej_th (cj_ret (ej_then_ret ?_))
      exact ej_ret2 rfl Tryz.results10 rfl rfl (fun w' hp => ⟨none, 0, by rw [hV, hE]; rfl, hp.below, by rw [hV]; exact Res.nil⟩)
    · have h32b := h32
      try simp only [sxb] at h32
      have hb1 := not_f h32b
      have hbg := btw_t.1 hb1
      refine cj_skip (ej_th (cj_seq (cj_seq ?_)))
      refine cj_regionG (gj_step (y_loadN (hv := tk_all _ (bf_len hpl)) Tryz.isAgg31 Tryz.sizeOf31 rfl) rfl rfl rfl (gj_step (y_buildA0 (cs := ((bags0).flatMap encBa)) Tryz.underlying31 Tryz.sizeOf30 Tryz.zeroValue31 rfl) rfl rfl rfl (gj_step (y_bin rfl rfl (fun x y w => eq_bags hpl rfl x y w)) rfl rfl rfl (gj_step (y_move rfl) rfl rfl rfl (gj_g 5 36 41 rfl rfl rfl rfl (fun hg36 => gj_yes rfl rfl rfl (y_move rfl) rfl rfl (gj_yes rfl rfl rfl (y_ixArr Tryz.underlying31 Tryz.sizeOf30 rfl rfl (by omega)) rfl rfl (gj_yes rfl rfl rfl (y_fa0 fa30_0 rfl) rfl rfl (gj_yes rfl rfl rfl (y_load1 Tryz.isAgg3 rfl (bf_room hpl hbg)) rfl rfl (gj_yes rfl rfl rfl (y_eql rfl rfl) rfl rfl (gj_nil rfl)))))) (gj_step (y_or rfl rfl rfl) rfl rfl rfl (gj_nil ?_)))))))
      refine ej_th ?_
      refine cj_cond rfl (fun h42 => ?_) (fun h42 => ?_)
      · have h42b := h42
        try simp only [sxb] at h42
        have hr0 : ((playB s.s l).getD bag.toNat bag0).room = 0 := by
          rcases (Bool.or_eq_true _ _).mp h42b with h | h
          · rw [of_decide_eq_true h]
            have h9 : bag.toNat < 32 := by omega
            rw [List.getD_eq_getElem?_getD, List.getElem?_replicate, if_pos h9]; rfl
          · simpa using h
        have hE : suspE s.s l bag = 44 := by rw [suspE, if_pos h0, if_pos hb1, if_pos hr0]
        have hV : suspV s.s l bag = [] := by rw [suspV, hE]; rfl
        refine cj_seq ?_
        refine cj_regionG (gj_step (y_assign rfl) rfl rfl rfl (gj_step (y_assign rfl) rfl rfl rfl (gj_nil ?_)))
        refine ej_th (cj_ret (ej_then_ret ?_))
        exact ej_ret2 rfl Tryz.results10 rfl rfl (fun w' hp => ⟨none, 0, by rw [hV, hE]; rfl, hp.below, by rw [hV]; exact Res.nil⟩)
      · have h42b := h42
        try simp only [sxb] at h42
        rw [Bool.or_eq_false_iff] at h42b
        have hr0 : ¬ ((playB s.s l).getD bag.toNat bag0).room = 0 := by have h9 := h42b.2; simpa using h9
        have hE : suspE s.s l bag = 0 := by rw [suspE, if_pos h0, if_pos hb1, if_neg hr0]
        have hV : suspV s.s l bag = minL ((sinceL s.s l bag l.length).flatMap fun r => groupsV s.s r.toNat) := by rw [suspV, if_pos hE]
        refine cj_skip (ej_th (cj_seq ?_))
        refine cj_regionG (gj_step (y_assign rfl) rfl rfl rfl (gj_nil ?_))
        refine ej_th (cj_seq (cj_seq ?_))
        refine cj_regionG (gj_step (y_move rfl) rfl rfl rfl (gj_step (y_lenA Tryz.underlying27 rfl) rfl rfl rfl (gj_step (y_move rfl) rfl rfl rfl (gj_nil ?_))))
        refine ej_th (cj_block ?_)
        refine cj_ownNil 3 1 enInt ?_
        refine cj_lpi (X := Nat × Option Addr × Nat × List Int) [(1, _), (2, _), (3, _), (6, _), (7, _), (43, _), (44, _)] (fun ⟨k, A1, c1, xs⟩ => k ≤ l.length ∧ xs = sinceL s.s l bag k) (fun ⟨k, A1, c1, xs⟩ => [(11, .slice A1 xs.length c1), (45, .int .i64 (k : Nat))]) (fun ⟨k, A1, c1, xs⟩ => [ow 3 1 enInt A1 c1 xs, ownB b3 (cellsB 26 [.slice s.Ar s.rooms.length s.cr, .slice s.Ag s.gates.length s.cg, .slice s.As s.staff.length s.cs])]) (fun ⟨k, A1, c1, xs⟩ => [sl (fun b => b < w.heap.size) 3 encRo s.Ar s.rooms, sl (fun b => b < w.heap.size) 4 encGa s.Ag s.gates, sl (fun b => b < w.heap.size) 1 enInt s.As s.staff, sl (fun b => b < w.heap.size) 8 encCa A l]) (fun ⟨k, A1, c1, xs⟩ => l.length - k) (0, none, 0, []) (⟨Nat.zero_le _, rfl⟩) ⟨rfl, rfl, rfl, rfl, rfl, rfl, rfl, rfl, rfl, trivial⟩ ?_
        rintro ⟨k, A1, c1, xs⟩ ⟨hk, hxs⟩
        dsimp only [List.cons_append, List.nil_append]
        refine cj_seq ?_
        refine cj_regionG (gj_step (y_lss rfl rfl) rfl rfl rfl (gj_nil ?_))
        refine ej_th (cj_seq ?_)
        refine cj_cond rfl (fun h46 => ?_) (fun h46 => ?_)
        · have h46b := h46
          try simp only [sxb] at h46
          obtain ⟨c, hck⟩ : ∃ c, l[k]? = some c := ⟨_, List.getElem?_eq_getElem (by omega)⟩
          have hpl2 := playB_len (s := s.s) (l.take (k + 1))
          have hsb := since_bd (s := s.s) (l := l) hbg k
          refine cj_skip (ej_th (cj_seq (cj_block (cj_seq (cj_region ?_)))))
          refine oj_step (y_move rfl) rfl rfl rfl ?_
          refine oj_step (y_ixR (reads_sl) Tryz.underlying27 Tryz.sizeOf60 rfl rfl (⟨by omega, by omega⟩)) rfl rfl rfl ?_
          refine oj_step (y_ldW (reads_sl) Tryz.isAgg60 Tryz.sizeOf60 rfl (hck) (fun _ => rfl)) rfl rfl rfl ?_
          refine oj_alloc Tryz.zeroValue60 rfl rfl (fun b13 => ?_)
          refine oj_step (y_assign rfl) rfl rfl rfl ?_
          refine oj_store rfl rfl rfl rfl Tryz.sizeOf60 rfl ?_
          refine oj_nil ?_
          refine ej_th (cj_seq (cj_seq ?_))
          refine cj_regionG (gj_step (y_fa fa60_2 rfl) rfl rfl rfl (gj_step (y_load1 Tryz.isAgg3 rfl rfl) rfl rfl rfl (gj_step (y_move rfl) rfl rfl rfl (gj_step (y_neq rfl rfl) rfl rfl rfl (gj_nil ?_)))))
          refine ej_th ?_
          refine cj_cond rfl (fun h53 => ?_) (fun h53 => ?_)
          · have h53b := h53
            try simp only [sxb] at h53
            have hsn := since_no (s := s.s) hck h53
            refine cj_exit (ej_then_exit (ej_blk_hit (ej_th ?_)))
            refine cj_regionG (gj_step (y_add rfl rfl (by omega)) rfl rfl rfl (gj_step (y_move rfl) rfl rfl rfl (gj_nil ?_)))
            exact ej_nx (k + 1, A1, c1, xs) (by first | omega | (simp only; omega)) ⟨by first | omega | (simp only; omega), by rw [hsn]; exact hxs⟩ ⟨rfl, rfl, rfl, rfl, rfl, rfl, rfl, rfl, rfl, trivial⟩
          · have h53b := h53
            try simp only [sxb] at h53
            have hcb : c.bag = bag := by simpa using h53
            have hsn := since_yes (s := s.s) hck hcb
            refine cj_skip (ej_th (cj_seq ?_))
            refine cj_plan 14 (by kernel_rfl) (by kernel_rfl) ?_
            refine pl_y 0 rfl (y_loadN Tryz.isAgg26 Tryz.sizeOf26 rfl) rfl rfl rfl rfl (by kernel_rfl) ?_
            refine pl_y 1 rfl (y_move rfl) rfl rfl rfl rfl (by kernel_rfl) ?_
            refine pl_y 2 rfl (y_move rfl) rfl rfl rfl rfl (by kernel_rfl) ?_
            refine pl_y 3 rfl (y_add rfl rfl (by omega)) rfl rfl rfl rfl (by kernel_rfl) ?_
            refine pl_y 4 rfl (y_sliceTo (xs := l) (k + 1) Tryz.underlying27 Tryz.sizeOf60 rfl rfl (by omega) hcap) rfl rfl rfl rfl (by kernel_rfl) ?_
            refine pl_y 5 rfl (y_call Tryz.call5 rfl (fun w hp => k_Play s (l.take (k + 1)) A cc w (hs.mono hp.below) (sl_take (hl.mono hp.below) _))) rfl rfl rfl rfl (by kernel_rfl) ?_
            refine pl_y 6 rfl (y_move rfl) rfl rfl rfl rfl (by kernel_rfl) ?_
            refine pl_y 7 rfl (y_extract rfl rfl) rfl rfl rfl rfl (by kernel_rfl) ?_
            refine pl_y 8 rfl (y_extract rfl rfl) rfl rfl rfl rfl (by kernel_rfl) ?_
            refine pl_y 9 rfl (y_extract rfl rfl) rfl rfl rfl rfl (by kernel_rfl) ?_
            refine pl_w1 10 (by kernel_rfl) rfl rfl (pl_fire rfl rfl rfl (by kernel_rfl) ?_)
            refine oj_alloc Tryz.zeroValue31 rfl rfl (fun b14 => ?_)
            refine oj_nil ?_
            refine ej_pl (lt_y (y_extract rfl rfl) rfl (lt_y (y_extract rfl rfl) rfl (lt_y (y_extract rfl rfl) rfl (lt_y (y_move rfl) rfl (lt_y (y_call Tryz.call5 rfl (fun w hp => k_Play s (l.take (k + 1)) A cc w (hs.mono hp.below) (sl_take (hl.mono hp.below) _))) rfl (lt_y (y_sliceTo (xs := l) (k + 1) Tryz.underlying27 Tryz.sizeOf60 rfl rfl (by omega) hcap) rfl (lt_y (y_add rfl rfl (by omega)) rfl (lt_y (y_move rfl) rfl (lt_y (y_move rfl) rfl (lt_y (y_loadN Tryz.isAgg26 Tryz.sizeOf26 rfl) rfl (lt_nil))))))))))) ?_
            refine pl_w1 11 (by kernel_rfl) rfl rfl (pl_fire rfl rfl rfl (by kernel_rfl) ?_)
            refine oj_store (vs := ((playB s.s (l.take (k + 1))).flatMap encBa)) (n := 160) (hset := set_all _ _ (by rw [bf_len hpl2]; rfl)) rfl rfl rfl (bf_one _) Tryz.sizeOf31 (bf_len hpl2) ?_
            refine oj_nil ?_
            refine ej_pl (lt_y (y_extract rfl rfl) rfl (lt_y (y_extract rfl rfl) rfl (lt_w (by kernel_rfl) (lt_w (by kernel_rfl) (lt_w (by kernel_rfl) (lt_w (by kernel_rfl) (lt_w (by kernel_rfl) (lt_w (by kernel_rfl) (lt_w (by kernel_rfl) (lt_w (by kernel_rfl) (lt_nil))))))))))) ?_
            refine pl_y 12 rfl (y_assign rfl) rfl rfl rfl rfl (by kernel_rfl) ?_
            refine pl_y 13 rfl (y_assign rfl) rfl rfl rfl rfl (by kernel_rfl) ?_
            refine pl_end (by kernel_rfl) ?_
            refine ej_th ?_
            refine cj_cuti (X := Option Addr × Nat × List Int) [(45, _), (1, _), (2, _), (3, _), (6, _), (7, _), (43, _), (44, _), (14, _)] ⟨rfl, rfl, rfl, rfl, rfl, rfl, rfl, rfl, rfl, trivial⟩ (fun ⟨A2, c2, zs⟩ => zs = if c.kind = 2 then xs else []) (fun ⟨A2, c2, zs⟩ => [(11, .slice A2 zs.length c2)]) (fun ⟨A2, c2, zs⟩ => [ownB b14 (cellsB 31 ((playB s.s (l.take (k + 1))).flatMap encBa)), ow 3 1 enInt A2 c2 zs, ownB b3 (cellsB 26 [.slice s.Ar s.rooms.length s.cr, .slice s.Ag s.gates.length s.cg, .slice s.As s.staff.length s.cs])]) (fun ⟨A2, c2, zs⟩ => [sl (fun b => b < w.heap.size) 3 encRo s.Ar s.rooms, sl (fun b => b < w.heap.size) 4 encGa s.Ag s.gates, sl (fun b => b < w.heap.size) 1 enInt s.As s.staff, sl (fun b => b < w.heap.size) 8 encCa A l]) ?_ ?_
            · refine cj_seq ?_
              refine cj_regionG (gj_step (y_fa fa60_1 rfl) rfl rfl rfl (gj_step (y_load1 Tryz.isAgg3 rfl rfl) rfl rfl rfl (gj_step (y_neq rfl rfl) rfl rfl rfl (gj_nil ?_))))
              refine ej_th ?_
              refine cj_cond rfl (fun h66 => ?_) (fun h66 => ?_)
              · have h66b := h66
                try simp only [sxb] at h66
                refine cj_ownNil 3 1 enInt ?_
                refine cj_regionG (gj_step (y_assign rfl) rfl rfl rfl (gj_nil ?_))
                refine ej_takes [ownB b14 (cellsB 31 ((playB s.s (l.take (k + 1))).flatMap encBa)), ow 3 1 enInt none 0 ([] : List Int), ownB b3 (cellsB 26 [.slice s.Ar s.rooms.length s.cr, .slice s.Ag s.gates.length s.cg, .slice s.As s.staff.length s.cs])] ?_
                exact ej_ct (none, 0, []) (by rw [if_neg h66]) ⟨rfl, rfl, rfl, rfl, rfl, rfl, rfl, rfl, rfl, rfl, trivial⟩
              · have h66b := h66
                try simp only [sxb] at h66
                refine cj_skip ?_
                exact ej_ct (A1, c1, xs) (by rw [if_pos h66]) ⟨rfl, rfl, rfl, rfl, rfl, rfl, rfl, rfl, rfl, rfl, trivial⟩
            · rintro ⟨A2, c2, zs⟩ hzs
              dsimp only [List.cons_append, List.nil_append]
              have hzl : zs.length ≤ 64 := by
                rw [hzs]
                split
                · rw [hxs]; omega
                · simp
              refine cj_region ?_
              refine oj_step (y_move rfl) rfl rfl rfl ?_
              refine oj_step (y_move rfl) rfl rfl rfl ?_
              refine oj_step (y_ixArr Tryz.underlying31 Tryz.sizeOf30 rfl rfl (by omega)) rfl rfl rfl ?_
              refine oj_step (y_fa0 fa30_0 rfl) rfl rfl rfl ?_
              refine oj_step (y_load1 Tryz.isAgg3 rfl (bf_room hpl2 hbg)) rfl rfl rfl ?_
              refine oj_buildSlice (cs := [.int .i64 ((playB s.s (l.take (k + 1))).getD bag.toNat bag0).room]) [.int .i64 0] Tryz.underlying24 Tryz.sizeOf3 Tryz.zeroValue3 rfl rfl (by kernel_rfl) (by kernel_rfl) rfl (fun b72 => ?_)
              refine oj_append  el24 (fun _ => rfl) enInt_one rfl rfl rfl (reads_lit [((playB s.s (l.take (k + 1))).getD bag.toNat bag0).room] (fun _ => rfl) rfl) (by unfold maxLen; simp only [List.length_append, List.length_cons, List.length_nil]; omega) (by simp only [List.length_append, List.length_cons, List.length_nil]; omega) rfl (fun A73 c73 => ?_)
              refine oj_step (y_assign rfl) rfl rfl rfl ?_
              refine oj_nil ?_
              refine ej_blk (ej_th ?_)
              refine cj_regionG (gj_step (y_add rfl rfl (by omega)) rfl rfl rfl (gj_step (y_move rfl) rfl rfl rfl (gj_nil ?_)))
              exact ej_nx (k + 1, A73, c73, zs ++ [((playB s.s (l.take (k + 1))).getD bag.toNat bag0).room]) (by first | omega | (simp only; omega)) ⟨by first | omega | (simp only; omega), by rw [hsn, hzs, hxs]⟩ ⟨rfl, rfl, rfl, rfl, rfl, rfl, rfl, rfl, rfl, trivial⟩
        · have h46b := h46
          try simp only [sxb] at h46
          have hke : k = l.length := by omega
          subst hke
          have hsb := since_bd (s := s.s) (l := l) hbg l.length
          refine cj_exit (ej_then_exit (ej_then_exit (ej_blk_hit (ej_th (cj_seq ?_)))))
          refine cj_regionG (gj_step (y_assign rfl) rfl rfl rfl (gj_nil ?_))
          refine ej_th (cj_seq (cj_seq ?_))
          refine cj_regionG (gj_step (y_move rfl) rfl rfl rfl (gj_step (y_lenA Tryz.underlying24 rfl) rfl rfl rfl (gj_step (y_move rfl) rfl rfl rfl (gj_nil ?_))))
          refine ej_th (cj_block ?_)
          have hxl : xs.length ≤ 64 := by rw [hxs]; omega
          refine cj_ownNil 3 1 enInt ?_
          refine cj_lpi (X := Nat × Option Addr × Nat × List Int) [(3, _), (6, _), (7, _), (75, _), (76, _)] (fun ⟨j, A3, c3, ys⟩ => j ≤ xs.length ∧ ys = intsL ((xs.take j).flatMap fun r => groupsV s.s r.toNat) ∧ ys.length ≤ 64 * j) (fun ⟨j, A3, c3, ys⟩ => [(17, .slice A3 ys.length c3), (77, .int .i64 (j : Nat))]) (fun ⟨j, A3, c3, ys⟩ => [ow 3 1 enInt A3 c3 ys, ow 3 1 enInt A1 c1 xs, ownB b3 (cellsB 26 [.slice s.Ar s.rooms.length s.cr, .slice s.Ag s.gates.length s.cg, .slice s.As s.staff.length s.cs])]) (fun ⟨j, A3, c3, ys⟩ => [sl (fun b => b < w.heap.size) 3 encRo s.Ar s.rooms, sl (fun b => b < w.heap.size) 4 encGa s.Ag s.gates, sl (fun b => b < w.heap.size) 1 enInt s.As s.staff, sl (fun b => b < w.heap.size) 8 encCa A l]) (fun ⟨j, A3, c3, ys⟩ => xs.length - j) (0, none, 0, []) (⟨Nat.zero_le _, rfl, Nat.le_refl _⟩) ⟨rfl, rfl, rfl, rfl, rfl, rfl, rfl, trivial⟩ ?_
          rintro ⟨j, A3, c3, ys⟩ ⟨hj, hys, hyl⟩
          dsimp only [List.cons_append, List.nil_append]
          refine cj_seq ?_
          refine cj_regionG (gj_step (y_lss rfl rfl) rfl rfl rfl (gj_nil ?_))
          refine ej_th (cj_seq ?_)
          refine cj_cond rfl (fun h78 => ?_) (fun h78 => ?_)
          · have h78b := h78
            try simp only [sxb] at h78
            obtain ⟨r, hr⟩ : ∃ r, xs[j]? = some r := ⟨_, List.getElem?_eq_getElem (by omega)⟩
            have hrb := hsb.1 r (by rw [← hxs]; exact List.mem_of_getElem? hr)
            have hgl : (intsL (groupsV s.s r.toNat)).length ≤ 64 := by rw [enC]; exact minL_len _
            refine cj_skip (ej_th (cj_seq (cj_block (cj_seq ?_))))
            refine cj_regionG (gj_step (y_ixR (reads_owI) Tryz.underlying24 Tryz.sizeOf3 rfl rfl (⟨by omega, by omega⟩)) rfl rfl rfl (gj_step (y_ld0 (reads_owI) Tryz.isAgg3 rfl (hr) rfl) rfl rfl rfl (gj_step (y_assign rfl) rfl rfl rfl (gj_nil ?_))))
            refine ej_th (cj_region ?_)
            refine oj_step (y_move rfl) rfl rfl rfl ?_
            refine oj_step (y_loadN Tryz.isAgg26 Tryz.sizeOf26 rfl) rfl rfl rfl ?_
            refine oj_step (y_move rfl) rfl rfl rfl ?_
            refine oj_callS (fun A c => .slice A (intsL (groupsV s.s r.toNat)).length c) 1 enInt (intsL (groupsV s.s r.toNat)) Tryz.call28 rfl (fun w hp => by
              have h9 := k_groups s r.toNat w (hs.mono hp.below) hb (by omega)
              rw [show ((r.toNat : Nat) : Int) = r by omega] at h9
              exact h9) rfl (fun A84 c84 fp84 hfp84 => ?_)
            refine oj_append  el24 (fun _ => rfl) enInt_one rfl rfl rfl (reads_sl) (by unfold maxLen; omega) (by omega) rfl (fun A85 c85 => ?_)
            refine oj_step (y_assign rfl) rfl rfl rfl ?_
            refine oj_nil ?_
            refine ej_blk (ej_th ?_)
            refine cj_regionG (gj_step (y_add rfl rfl (by omega)) rfl rfl rfl (gj_step (y_move rfl) rfl rfl rfl (gj_nil ?_)))
            exact ej_nx (j + 1, A85, c85, ys ++ intsL (groupsV s.s r.toNat)) (by first | omega | (simp only; omega)) ⟨by first | omega | (simp only; omega), by
              dsimp only
              rw [hys, List.take_add_one, hr, Option.toList_some, List.flatMap_append, ints_app]; simp, by simp only [List.length_append]; omega⟩ ⟨rfl, rfl, rfl, rfl, rfl, rfl, rfl, trivial⟩
          · have h78b := h78
            try simp only [sxb] at h78
            have hje : j = xs.length := by omega
            subst hje
            rw [List.take_length, hxs] at hys
            have hysl : ys.length = (intsL ((sinceL s.s l bag l.length).flatMap fun r => groupsV s.s r.toNat)).length := by rw [hys]
            have hxl : xs.length ≤ 64 := by rw [hxs]; omega
            refine cj_exit (ej_then_exit (ej_then_exit (ej_blk_hit (ej_th (cj_seq (cj_region ?_))))))
            refine oj_step (y_move rfl) rfl rfl rfl ?_
            refine oj_callS (fun A c => .slice A (intsL (minL ((sinceL s.s l bag l.length).flatMap fun r => groupsV s.s r.toNat))).length c) 1 enInt (intsL (minL ((sinceL s.s l bag l.length).flatMap fun r => groupsV s.s r.toNat))) Tryz.call29 rfl (fun w hp => by
              have h9 := k_leastSets ((sinceL s.s l bag l.length).flatMap fun r => groupsV s.s r.toNat) A3 c3 w (by rw [← hys]; exact hp.rdO (fun _ => rfl) (by unfold maxLen; omega)) (fun x hx => by
                obtain ⟨r, _, hr⟩ := List.mem_flatMap.1 hx
                exact minL_lt hr) (by rw [enC] at hysl; omega)
              rw [show (intsL ((sinceL s.s l bag l.length).flatMap fun r => groupsV s.s r.toNat)).length = ys.length by rw [← hys]] at h9
              exact h9) rfl (fun A88 c88 fp88 hfp88 => ?_)
            refine oj_step (y_assign rfl) rfl rfl rfl ?_
            refine oj_step (y_assign rfl) rfl rfl rfl ?_
            refine oj_nil ?_
            refine ej_th (cj_ret ?_)
            exact ej_ret2 rfl Tryz.results10 rfl rfl (fun w' hp => ⟨A88, c88, by rw [hV, hE], hp.below, by rw [hV]; exact hp.resS (fun b hb => hfp88 b hb)⟩)

end Go.Proofs.YtomidcehahdmbaaGreat
namespace Go.Proofs.YtomidcehahdmbaaGreat
open Go.Sx Go.RowKit Vm
set_option maxRecDepth 20000
theorem k_Same (a b : List Int) (Aa Ab : Option Addr) (ca cb : Nat) (w : World) (ha : Rd w 1 enInt Aa a) (hb : Rd w 1 enInt Ab b) : Calls Tryz.prog 12 #[.slice Aa a.length ca, .slice Ab b.length cb] w (fun e w' => e = .returned (.bool (decide (a = b))) ∧ Grow w w') := by
  have hla := ha.len
  have hlb := hb.len
  refine enter_pure (args := [.slice Aa a.length ca, .slice Ab b.length cb]) [sl (fun b => b < w.heap.size) 1 enInt Aa a, sl (fun b => b < w.heap.size) 1 enInt Ab b] Tryz.func12 rfl (by rw [Tryz.ntmps12]; simp) (fun g hg => by simp at hg; rcases hg with rfl | rfl; exact ⟨ha, fun _ h => h⟩; exact ⟨hb, fun _ h => h⟩) ?_
  refine cj_seq ?_
  refine cj_regionG (gj_step (y_assign rfl) rfl rfl rfl (gj_nil ?_))
  refine ej_th (cj_seq ?_)
  refine cj_regionG (gj_step (y_move rfl) rfl rfl rfl (gj_step (y_lenA Tryz.underlying24 rfl) rfl rfl rfl (gj_step (y_move rfl) rfl rfl rfl (gj_step (y_lenA Tryz.underlying24 rfl) rfl rfl rfl (gj_step (y_eql rfl rfl) rfl rfl rfl (gj_step (y_assign rfl) rfl rfl rfl (gj_nil ?_)))))))
  refine ej_th (cj_seq (cj_seq ?_))
  refine cj_regionG (gj_step (y_assign rfl) rfl rfl rfl (gj_nil ?_))
  refine ej_th (cj_block ?_)
  refine cj_lpic (X := Nat × Bool) [(0, _), (1, _), (4, _)] (fun ⟨k, ok⟩ => k ≤ a.length ∧ (ok = true → a.length = b.length) ∧ (ok && decide (a.drop k = b.drop k)) = decide (a = b)) (fun ⟨k, ok⟩ => [(5, .bool ok), (6, .int .i64 (k : Nat))]) (fun ⟨k, ok⟩ => a.length - k) (0, (a.length : Int) == (b.length : Int)) (⟨Nat.zero_le _, fun h => len_of h, same_start a b⟩) ⟨rfl, rfl, rfl, rfl, rfl, trivial⟩ ?_
  rintro ⟨k, ok⟩ ⟨hk, hle, hsk⟩
  dsimp only [List.cons_append, List.nil_append]
  refine cj_seq (cj_seq ?_)
  refine cj_regionG (gj_step (y_move rfl) rfl rfl rfl (gj_step (y_move rfl) rfl rfl rfl (gj_g 4 13 17 rfl rfl rfl rfl (fun hg13 => gj_yes rfl rfl rfl (y_move rfl) rfl rfl (gj_yes rfl rfl rfl (y_move rfl) rfl rfl (gj_yes rfl rfl rfl (y_lenA Tryz.underlying24 rfl) rfl rfl (gj_yes rfl rfl rfl (y_lss rfl rfl) rfl rfl (gj_nil rfl))))) (gj_step (y_and rfl rfl rfl) rfl rfl rfl (gj_nil ?_)))))
  refine ej_th ?_
  refine cj_cond rfl (fun h18 => ?_) (fun h18 => ?_)
  · have h18b := h18
    try simp only [sxb] at h18
    rw [Bool.and_eq_true, decide_eq_true_eq] at h18b
    have hok := h18b.1
    have hl2 := hle hok
    have hk2 := h18b.2
    obtain ⟨x, hx⟩ : ∃ x, a[k]? = some x := ⟨_, List.getElem?_eq_getElem (by omega)⟩
    obtain ⟨y, hy⟩ : ∃ y, b[k]? = some y := ⟨_, List.getElem?_eq_getElem (by omega)⟩
    rw [eq_drop a b k x y hx hy, hok, Bool.true_and] at hsk
    refine cj_skip (ej_th (cj_seq (cj_block ?_)))
    refine cj_draw (by kernel_rfl) (by kernel_rfl) (gj_step (y_move rfl) rfl rfl rfl (gj_step (y_move rfl) rfl rfl rfl (gj_step (y_ixR (reads_sl) Tryz.underlying24 Tryz.sizeOf3 rfl rfl (⟨by omega, by omega⟩)) rfl rfl rfl (gj_step (y_ld0 (reads_sl) Tryz.isAgg3 rfl (hx) rfl) rfl rfl rfl (gj_step (y_move rfl) rfl rfl rfl (gj_step (y_move rfl) rfl rfl rfl (gj_step (y_ixR (reads_sl) Tryz.underlying24 Tryz.sizeOf3 rfl rfl (⟨by omega, by omega⟩)) rfl rfl rfl (gj_step (y_ld0 (reads_sl) Tryz.isAgg3 rfl (hy) rfl) rfl rfl rfl (gj_step (y_eql rfl rfl) rfl rfl rfl (gj_step (y_assign rfl) rfl rfl rfl (gj_nil ?_)))))))))))
    refine ej_blk (ej_th ?_)
    refine cj_regionG (gj_step (y_move rfl) rfl rfl rfl (gj_step (y_add rfl rfl (by omega)) rfl rfl rfl (gj_step (y_assign rfl) rfl rfl rfl (gj_nil ?_))))
    exact ej_nx (k + 1, x == y) (by simp only; omega) ⟨by first | omega | (simp only; omega), fun _ => hle hok, by rw [← hsk, beq_dec]⟩ ⟨rfl, rfl, rfl, rfl, rfl, trivial⟩
  · have h18b := h18
    try simp only [sxb] at h18
    rw [Bool.and_eq_false_iff, decide_eq_false_iff_not] at h18b
    refine cj_exit (ej_then_exit (ej_then_exit (ej_blk_hit (ej_th (cj_seq ?_)))))
    refine cj_regionG (gj_step (y_move rfl) rfl rfl rfl (gj_step (y_assign rfl) rfl rfl rfl (gj_nil ?_)))
    refine ej_th (cj_ret ?_)
    refine ej_ret1 rfl Tryz.results12 rfl (fun w' hp => ⟨?_, hp.below⟩)
    rw [← hsk]
    cases hok : ok with
    | false => rfl
    | true =>
      have hl2 := hle hok
      have hk2 : a.length ≤ k := by rcases h18b with h | h; rw [hok] at h; cases h; omega
      rw [List.drop_of_length_le hk2, List.drop_of_length_le (show b.length ≤ k by omega)]; rfl

def exS : Str := ⟨[⟨0, 0, 0⟩, ⟨2, 0, 4⟩, ⟨1, 1, 0⟩], [⟨0, 1, 1, [1]⟩, ⟨1, 2, 2, [6]⟩, ⟨0, 2, 1, [8]⟩], [1, 2, 3]⟩
def strX (b4 b5 b7 b9 b11 b12 : Nat) : StrV := ⟨some ⟨b4, 0, none⟩, 3, [⟨0, 0, 0⟩, ⟨2, 0, 4⟩, ⟨1, 1, 0⟩], some ⟨b11, 0, none⟩, 3, [⟨0, 1, 1, some ⟨b5, 0, none⟩, 1, [1]⟩, ⟨1, 2, 2, some ⟨b7, 0, none⟩, 1, [6]⟩, ⟨0, 2, 1, some ⟨b9, 0, none⟩, 1, [8]⟩], some ⟨b12, 0, none⟩, 3, [1, 2, 3]⟩
abbrev exL : List CarryV := [⟨5, 1, 7, 1, 0, 1, 10, 3⟩, ⟨6, 2, 7, 2, 1, 2, 0, 0⟩, ⟨8, 3, 7, 0, 0, 1, 10, 0⟩]
theorem lit_sl {α : Type} {w0 w : World} {O S : List Fact} {b e sz : Nat} {enc : α → List Value} {cs : List Value} (hp : Hp (fun i => i < w0.heap.size) w0 O S w) [h : HasB O b (cellsB e cs)] (xs : List α) (he : ∀ x, (enc x).length = sz) (hcs : xs.flatMap enc = cs) (hl : xs.length ≤ maxLen) : (sl (fun i => w0.heap.size ≤ i ∧ i < w.heap.size) sz enc (some ⟨b, 0, none⟩) xs).P w := by
  obtain ⟨h1, h2⟩ := hp.lit (b := b) (e := e) xs he hcs hl
  exact sl_fp h1 (fun i hi => ⟨(h2 i hi).1, (h2 i hi).2.1⟩)
theorem ex_V {s : StrV} (h : s.s = exS) : (EntV s 3 = 7 ∧ askE s 3 = 0) ∧ (wayE s 3 2 = 0 ∧ wayL s 3 2 = [0, 1]) ∧ (roomE s 2 = 0 ∧ grpsV s 2 = [3, 5, 6]) ∧ (roomE s 1 = 0 ∧ grdsV s 1 = [5]) ∧ clsE s 1 3 = 0 ∧ clsV s 1 3 = true := by
  have hr : s.rooms = exS.rooms := congrArg Str.rooms h
  have hst : s.staff = exS.staff := congrArg Str.staff h
  simp only [EntV, askE, wayE, wayL, roomE, grpsV, grdsV, clsE, clsV, h, hr, hst]
  decide +kernel
theorem ex_P : (playE exS exL = 0 ∧ playAt exS exL = 3) ∧ (whereE exS exL 7 5 = 0 ∧ whereR exS exL 7 5 = 1) ∧ suspE exS (exL.take 2) 7 = 0 ∧ suspV exS (exL.take 2) 7 = [1, 4] ∧ (playB exS exL)[7]? = some ⟨2, 10, 3, 0, 1⟩ := by decide +kernel

set_option maxHeartbeats 1000000 in
theorem k_strong  (w : World)  : Calls Tryz.prog 22 #[] w (fun e w' => ∃ s : StrV, s.s = exS ∧ e = .returned (.agg #[.slice s.Ar s.rooms.length s.cr, .slice s.Ag s.gates.length s.cg, .slice s.As s.staff.length s.cs]) ∧ Grow w w' ∧ (strF (fun b => w.heap.size ≤ b ∧ b < w'.heap.size) s).P w') := by
  refine enter_pure (args := []) [] Tryz.func22 rfl (by rw [Tryz.ntmps22]; simp) (by simp) ?_
  refine cj_seq (cj_region ?_)
  refine oj_alloc Tryz.zeroValue26 rfl rfl (fun b0 => ?_)
  refine oj_nil ?_
  refine ej_th (cj_seq (cj_region ?_))
  refine oj_step (y_build st73 rfl rfl) rfl rfl rfl ?_
  refine oj_step (y_build (cs := [.int .i64 2, .int .i64 0, .int .i64 4]) st73 rfl (by kernel_rfl)) rfl rfl rfl ?_
  refine oj_step (y_build (cs := [.int .i64 1, .int .i64 1, .int .i64 0]) st73 rfl (by kernel_rfl)) rfl rfl rfl ?_
  refine oj_buildSlice [.int .i64 0, .int .i64 0, .int .i64 0, .int .i64 0, .int .i64 0, .int .i64 0, .int .i64 0, .int .i64 0, .int .i64 0] Tryz.underlying22 Tryz.sizeOf73 Tryz.zeroValue73 rfl rfl (by kernel_rfl) rfl rfl (fun b4 => ?_)
  refine oj_buildSlice (cs := [.int .i64 1]) [.int .i64 0] Tryz.underlying24 Tryz.sizeOf3 Tryz.zeroValue3 rfl rfl (by kernel_rfl) (by kernel_rfl) rfl (fun b5 => ?_)
  refine oj_step (y_build (cs := [.int .i64 0, .int .i64 1, .int .i64 1, .slice (some ⟨b5, 0, none⟩) 1 1]) st78 rfl (by kernel_rfl)) rfl rfl rfl ?_
  refine oj_buildSlice (cs := [.int .i64 6]) [.int .i64 0] Tryz.underlying24 Tryz.sizeOf3 Tryz.zeroValue3 rfl rfl (by kernel_rfl) (by kernel_rfl) rfl (fun b7 => ?_)
  refine oj_step (y_build (cs := [.int .i64 1, .int .i64 2, .int .i64 2, .slice (some ⟨b7, 0, none⟩) 1 1]) st78 rfl (by kernel_rfl)) rfl rfl rfl ?_
  refine oj_buildSlice (cs := [.int .i64 8]) [.int .i64 0] Tryz.underlying24 Tryz.sizeOf3 Tryz.zeroValue3 rfl rfl (by kernel_rfl) (by kernel_rfl) rfl (fun b9 => ?_)
  refine oj_step (y_build (cs := [.int .i64 0, .int .i64 2, .int .i64 1, .slice (some ⟨b9, 0, none⟩) 1 1]) st78 rfl (by kernel_rfl)) rfl rfl rfl ?_
  refine oj_buildSlice (cs := [.int .i64 0, .int .i64 1, .int .i64 1, .slice (some ⟨b5, 0, none⟩) 1 1, .int .i64 1, .int .i64 2, .int .i64 2, .slice (some ⟨b7, 0, none⟩) 1 1, .int .i64 0, .int .i64 2, .int .i64 1, .slice (some ⟨b9, 0, none⟩) 1 1]) [.int .i64 0, .int .i64 0, .int .i64 0, .slice none 0 0, .int .i64 0, .int .i64 0, .int .i64 0, .slice none 0 0, .int .i64 0, .int .i64 0, .int .i64 0, .slice none 0 0] Tryz.underlying23 Tryz.sizeOf78 Tryz.zeroValue78 rfl rfl (by kernel_rfl) (by kernel_rfl) rfl (fun b11 => ?_)
  refine oj_buildSlice (cs := [.int .i64 1, .int .i64 2, .int .i64 3]) [.int .i64 0, .int .i64 0, .int .i64 0] Tryz.underlying24 Tryz.sizeOf3 Tryz.zeroValue3 rfl rfl (by kernel_rfl) (by kernel_rfl) rfl (fun b12 => ?_)
  refine oj_step (y_build (cs := [.slice (some ⟨b4, 0, none⟩) 3 3, .slice (some ⟨b11, 0, none⟩) 3 3, .slice (some ⟨b12, 0, none⟩) 3 3]) st26 rfl (by kernel_rfl)) rfl rfl rfl ?_
  refine oj_store rfl rfl rfl rfl Tryz.sizeOf26 rfl ?_
  refine oj_nil ?_
  refine ej_th (cj_ret ?_)
  exact ej_retC1 rfl Tryz.results22 rfl (y_loadN Tryz.isAgg26 Tryz.sizeOf26 rfl) (fun w' hp => ⟨strX b4 b5 b7 b9 b11 b12, rfl, rfl, hp.below, ⟨lit_sl (b := b4) (sz := 3) (enc := encRo) hp [⟨0, 0, 0⟩, ⟨2, 0, 4⟩, ⟨1, 1, 0⟩] (fun _ => rfl) rfl (by unfold maxLen; simp), lit_sl (b := b11) (sz := 4) (enc := encGa) hp [⟨0, 1, 1, some ⟨b5, 0, none⟩, 1, [1]⟩, ⟨1, 2, 2, some ⟨b7, 0, none⟩, 1, [6]⟩, ⟨0, 2, 1, some ⟨b9, 0, none⟩, 1, [8]⟩] (fun _ => rfl) rfl (by unfold maxLen; simp)⟩, lit_sl (b := b12) (sz := 1) (enc := enInt) hp [1, 2, 3] (fun _ => rfl) rfl (by unfold maxLen; simp), fun g hg => by
    rcases List.mem_cons.1 hg with rfl | hg
    · exact lit_sl (b := b5) (sz := 1) (enc := enInt) hp [1] (fun _ => rfl) rfl (by unfold maxLen; simp)
    rcases List.mem_cons.1 hg with rfl | hg
    · exact lit_sl (b := b7) (sz := 1) (enc := enInt) hp [6] (fun _ => rfl) rfl (by unfold maxLen; simp)
    rcases List.mem_cons.1 hg with rfl | hg
    · exact lit_sl (b := b9) (sz := 1) (enc := enInt) hp [8] (fun _ => rfl) rfl (by unfold maxLen; simp)
    · cases hg⟩)

theorem k_log  (w : World)  : Calls Tryz.prog 26 #[] w (fun e w' => ∃ (A : Option Addr) (_ : Nat), e = .returned (.slice A exL.length 3) ∧ Grow w w' ∧ Res w w' 8 encCa A exL) := by
  refine enter_pure (args := []) [] Tryz.func26 rfl (by rw [Tryz.ntmps26]; simp) (by simp) ?_
  refine cj_seq ?_
  refine cj_regionG (gj_step (y_assign rfl) rfl rfl rfl (gj_nil ?_))
  refine ej_th (cj_seq (cj_region ?_))
  refine oj_step (y_build (cs := [.int .i64 5, .int .i64 1, .int .i64 7, .int .i64 1, .int .i64 0, .int .i64 1, .int .i64 10, .int .i64 3]) st60 rfl (by kernel_rfl)) rfl rfl rfl ?_
  refine oj_step (y_build (cs := [.int .i64 6, .int .i64 2, .int .i64 7, .int .i64 2, .int .i64 1, .int .i64 2, .int .i64 0, .int .i64 0]) st60 rfl (by kernel_rfl)) rfl rfl rfl ?_
  refine oj_step (y_build (cs := [.int .i64 8, .int .i64 3, .int .i64 7, .int .i64 0, .int .i64 0, .int .i64 1, .int .i64 10, .int .i64 0]) st60 rfl (by kernel_rfl)) rfl rfl rfl ?_
  refine oj_buildSlice (cs := [.int .i64 5, .int .i64 1, .int .i64 7, .int .i64 1, .int .i64 0, .int .i64 1, .int .i64 10, .int .i64 3, .int .i64 6, .int .i64 2, .int .i64 7, .int .i64 2, .int .i64 1, .int .i64 2, .int .i64 0, .int .i64 0, .int .i64 8, .int .i64 3, .int .i64 7, .int .i64 0, .int .i64 0, .int .i64 1, .int .i64 10, .int .i64 0]) [.int .i64 0, .int .i64 0, .int .i64 0, .int .i64 0, .int .i64 0, .int .i64 0, .int .i64 0, .int .i64 0, .int .i64 0, .int .i64 0, .int .i64 0, .int .i64 0, .int .i64 0, .int .i64 0, .int .i64 0, .int .i64 0, .int .i64 0, .int .i64 0, .int .i64 0, .int .i64 0, .int .i64 0, .int .i64 0, .int .i64 0, .int .i64 0] Tryz.underlying27 Tryz.sizeOf60 Tryz.zeroValue60 rfl rfl (by kernel_rfl) (by kernel_rfl) rfl (fun b4 => ?_)
  refine oj_step (y_assign rfl) rfl rfl rfl ?_
  refine oj_nil ?_
  refine ej_th (cj_ret ?_)
  exact ej_ret1 rfl Tryz.results26 rfl (fun w' hp => ⟨some ⟨b4, 0, none⟩, 3, rfl, hp.below, lit_sl (b := b4) (sz := 8) (enc := encCa) hp exL (fun _ => rfl) rfl (by unfold maxLen; simp)⟩)

end Go.Proofs.YtomidcehahdmbaaGreat
namespace Go.Proofs.YtomidcehahdmbaaGreat
open Go Go.Sx Go.RowKit Vm
structure WyV where
  A : Option Addr
  c : Nat
  w : List Nat
abbrev wy0 : WyV := ⟨none, 0, []⟩
abbrev evW (x : WyV) : Value := .slice x.A (intsL x.w).length x.c
abbrev Sq := List (Nat × WyV)
theorem ints_snoc (l : List Nat) (k : Nat) : intsL (l ++ [k]) = intsL l ++ [((k : Nat) : Int)] := by simp
def mapL (q : Sq) : List (Int × WyV) := q.map fun e => ((e.1 : Int), e.2)
def seqW (q : Sq) : List (Nat × List Nat) := q.map fun e => (e.1, e.2.w)
def quL (q : Sq) (p : Nat) : List Int := (q.drop p).map fun e => (e.1 : Int)
/-- The slices of all ways that were found. -/
def famW (fp : Nat → Prop) (q : Sq) : Fact := ⟨fp, fun w => ∀ e ∈ q, (sl fp 1 enInt e.2.A (intsL e.2.w)).P w, fun h k e he => (sl fp 1 enInt e.2.A (intsL e.2.w)).stab h (k e he)⟩
theorem mapL_no {q : Sq} {r : Nat} (h : ∀ f ∈ q, f.1 ≠ r) : getL (mapL q) (r : Int) = none := by
  induction q with
  | nil => rfl
  | cons e q ih =>
    have h1 := h e (List.mem_cons_self ..)
    show (if ((e.1 : Int) = (r : Int)) then _ else getL (mapL q) (r : Int)) = none
    rw [if_neg (by omega)]
    exact ih (fun f hf => h f (List.mem_cons_of_mem _ hf))
theorem mapL_has {q : Sq} {r : Nat} {v : WyV} (h : getL (mapL q) (r : Int) = some v) : ∃ f ∈ q, f.1 = r := by
  induction q with
  | nil => cases h
  | cons e q ih =>
    have h : (if ((e.1 : Int) = (r : Int)) then some e.2 else getL (mapL q) (r : Int)) = some v := h
    by_cases he : (e.1 : Int) = (r : Int)
    · exact ⟨e, List.mem_cons_self .., by omega⟩
    · rw [if_neg he] at h
      obtain ⟨f, hf, h2⟩ := ih h
      exact ⟨f, List.mem_cons_of_mem _ hf, h2⟩
theorem mapL_at : ∀ {q : Sq} {p : Nat} {e : Nat × WyV}, (q.map (·.1)).Nodup → q[p]? = some e → getL (mapL q) (e.1 : Int) = some e.2
  | [], _, _, _, h => by cases h
  | f :: q, 0, e, _, h => by
    have : f = e := by simpa using h
    subst this
    show (if ((f.1 : Int) = (f.1 : Int)) then some f.2 else _) = _
    rw [if_pos rfl]
  | f :: q, p + 1, e, hn, h => by
    rw [List.map_cons, List.nodup_cons] at hn
    have hq : q[p]? = some e := by simpa using h
    show (if ((f.1 : Int) = (e.1 : Int)) then some f.2 else getL (mapL q) (e.1 : Int)) = _
    rw [if_neg, mapL_at hn.2 hq]
    intro he
    exact hn.1 (List.mem_map.2 ⟨e, List.mem_of_getElem? hq, by omega⟩)
theorem putL_new {q : Sq} {r : Nat} {v : WyV} (h : ∀ f ∈ q, f.1 ≠ r) : putL (mapL q) (r : Int) v = mapL (q ++ [(r, v)]) := by
  induction q with
  | nil => rfl
  | cons e q ih =>
    have h1 := h e (List.mem_cons_self ..)
    show (if ((e.1 : Int) = (r : Int)) then _ else ((e.1 : Int), e.2) :: putL (mapL q) (r : Int) v) = _
    rw [if_neg (by omega), ih (fun f hf => h f (List.mem_cons_of_mem _ hf))]; rfl
theorem seqW_get {q : Sq} {p : Nat} {e : Nat × WyV} (h : q[p]? = some e) : (seqW q)[p]? = some (e.1, e.2.w) := by unfold seqW; rw [List.getElem?_map, h]; rfl
theorem seqW_keys (q : Sq) : (seqW q).map (·.1) = q.map (·.1) := by unfold seqW; rw [List.map_map]; rfl
theorem seqW_mem {q : Sq} {e : Nat × List Nat} (h : e ∈ seqW q) : ∃ f ∈ q, f.1 = e.1 := by
  obtain ⟨f, hf, rfl⟩ := List.mem_map.1 h
  exact ⟨f, hf, rfl⟩
theorem mem_seqW {q : Sq} {f : Nat × WyV} (h : f ∈ q) : (f.1, f.2.w) ∈ seqW q := List.mem_map.2 ⟨f, h, rfl⟩
theorem seqW_snoc (q : Sq) (r : Nat) (v : WyV) : seqW (q ++ [(r, v)]) = seqW q ++ [(r, v.w)] := by unfold seqW; rw [List.map_append]; rfl
theorem quL_cons {q : Sq} {p : Nat} {e : Nat × WyV} (h : q[p]? = some e) : quL q p = (e.1 : Int) :: quL q (p + 1) := by unfold quL; rw [get_drop h]; rfl
theorem quL_snoc {q : Sq} {p : Nat} (r : Nat) (v : WyV) (h : p ≤ q.length) : quL (q ++ [(r, v)]) p = quL q p ++ [(r : Int)] := by
  unfold quL
  rw [List.drop_append_of_le_length h, List.map_append]; rfl
theorem quL_len (q : Sq) (p : Nat) : (quL q p).length = q.length - p := by unfold quL; simp
theorem nodup_lt : ∀ (n : Nat) (l : List Nat), l.Nodup → (∀ x ∈ l, x < n) → l.length ≤ n
  | 0, [], _, _ => Nat.le_refl _
  | 0, x :: l, _, h => absurd (h x (List.mem_cons_self ..)) (Nat.not_lt_zero x)
  | n + 1, l, hn, h => by
    by_cases hm : n ∈ l
    · have h1 := nodup_lt n (l.erase n) (hn.erase n) (fun x hx => by
        have h2 := hn.mem_erase_iff.1 hx
        have h3 := h x h2.2
        have h4 := h2.1
        omega)
      rw [List.length_erase_of_mem hm] at h1
      omega
    · have h1 := nodup_lt n l hn (fun x hx => by
        have h3 := h x hx
        have h4 : x ≠ n := fun e => hm (e ▸ hx)
        omega)
      omega
theorem sq_len {q : Sq} (hn : (q.map (·.1)).Nodup) (h64 : ∀ e ∈ q, e.1 < 64) : q.length ≤ 64 := by
  have h1 := nodup_lt 64 (q.map (·.1)) hn (fun x hx => by
    obtain ⟨e, he, rfl⟩ := List.mem_map.1 hx
    exact h64 e he)
  simpa using h1
theorem way_found {s : StrV} {g room : Int} {n m : Nat} {e : Nat × List Nat} (h0 : askE s g = 0) (hb : strB s.s = true) (hn : g = n) (hm : room = m) (h2 : btw 0 room (s.rooms.length - 1) = true) (hF : First s.s n m e.2) : wayE s g room = 0 ∧ wayL s g room = e.2 := by
  subst hn; subst hm
  exact way_0 h0 h2 (by rw [Int.toNat_natCast, Int.toNat_natCast]; exact wayV_first hb hF)
theorem way_none {s : StrV} {n m : Nat} (h : ∀ w, ¬ Vm.Good s.s n m w) : wayV s.s n m = none := by
  cases hw : wayV s.s n m with
  | none => rfl
  | some l => exact absurd (wayV_some hw).1 (h l)
theorem y_lkW {C : Cx} {L : Regs} {O S : List Fact} {dst : Option Tmp} {ty t kt et : TypeId} {pos : String} {aft : Array Edge} {gu : Option (Nat × Bool)} {x y : Operand} {b : Nat} {l : List (Int × WyV)} {kk : Int} {v : WyV} {kd : TypeDesc} (d0 : WyV) (hat : getL l kk = some v) [hk : KeyE ekI kd] [h : HasMp O b ekI evW l] (ht : C.P.underlying t = some (.map kt et)) (hkt : C.P.underlying kt = some kd) (hz : ∀ w, (zeroValue et).run C.P w = .ok (evW d0) w)
    (hx : val L x = some (.map (some b))) (hy : val L y = some (ekI kk)) : Yi C ⟨dst, .lookup t x y false, ty, pos, aft, gu⟩ L O S (evW v) := by
  have h1 := y_lookup1 (C := C) (L := L) (O := O) (S := S) (dst := dst) (ty := ty) (pos := pos) (aft := aft) (gu := gu) (ek := ekI) (ev := evW) d0 ht hkt hz hx hy
  rw [hat] at h1
  exact h1
theorem mapL_some {q : Sq} {f : Nat × WyV} (hn : (q.map (·.1)).Nodup) (hf : f ∈ q) : (getL (mapL q) (f.1 : Int)).isSome = true := by
  obtain ⟨i, hi⟩ := List.getElem?_of_mem hf
  rw [mapL_at hn hi]; rfl
def fndI : Option (Nat × WyV) → Int
  | none => -1
  | some e => e.1
theorem fnd_neg {x : Option (Nat × WyV)} (h : fndI x < 0) : x = none := by
  cases x with
  | none => rfl
  | some e => exact absurd h (by show ¬ ((e.1 : Int) < 0); omega)
theorem fnd_pos {x : Option (Nat × WyV)} (h : 0 ≤ fndI x) : ∃ e, x = some e := by
  cases x with
  | none => exact absurd h (by decide)
  | some e => exact ⟨e, rfl⟩
end Go.Proofs.YtomidcehahdmbaaGreat
