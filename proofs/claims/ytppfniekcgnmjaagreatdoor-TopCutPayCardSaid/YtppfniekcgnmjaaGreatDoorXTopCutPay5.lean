/- Texts of ours, joined: 19 of them. Conditions: none. -/
import Derived.Test.YtppfniekcgnmjaaGreatDoorXTopCutPay4
import Derived.Test.YtppfniekcgnmjaaGreatDoorProg
import Derived.Laws.StructEq
namespace Go.Proofs.YtppfniekcgnmjaaGreatDoor.Ln
open Go.Sx Go.RowKit
set_option maxRecDepth 20000
theorem k_Run_no (d : Deal) (Ac : Option Addr) (cc : Nat) (l : List Act1) (Al : Option Addr) (cl : Nat) (w : World) (hc : Rd w 1 enInt Ac d.closed) (hl0 : Rd w 3 encAct Al l) (hG : Gl w 0 WAYS) (ha : askOk d l = false) : Calls Tryz.prog 6 #[.agg #[.int .i64 d.lr, .int .i64 d.lc, .int .i64 d.tr, .int .i64 d.tf, .int .i64 d.te, .int .i64 d.tt, .int .i64 d.tg, .slice Ac d.closed.length cc, .int .i64 d.start, .int .i64 d.sum], .slice Al l.length cl] w (fun e w' => ∃ A c, e = .returned (.tuple #[.slice A (RunO d l).length c, .int .i64 (RunN d l), .int .i64 (RunE d l)]) ∧ Grow w w' ∧ Res w w' 5 encAcc A (RunO d l)) := by
  have h1 : RunO d l = [] := by simp [RunO, ha]
  have h2 : RunN d l = 0 := by simp [RunN, ha]
  have h3 : RunE d l = askE d l := by simp [RunE, ha]
  rw [h1, h2, h3]
  refine enter_pure (args := [.agg #[.int .i64 d.lr, .int .i64 d.lc, .int .i64 d.tr, .int .i64 d.tf, .int .i64 d.te, .int .i64 d.tt, .int .i64 d.tg, .slice Ac d.closed.length cc, .int .i64 d.start, .int .i64 d.sum], .slice Al l.length cl]) [sl (fun b => b < w.heap.size) 1 enInt Ac d.closed, sl (fun b => b < w.heap.size) 3 encAct Al l, gl 0 WAYS] Tryz.func6 rfl (by rw [Tryz.ntmps6]; simp) (fun g hg => by simp at hg; rcases hg with rfl | rfl | rfl; exact ⟨hc, fun _ h => h⟩; exact ⟨hl0, fun _ h => h⟩; exact ⟨hG.1, fun b hb => by have : b = 0 := hb; rw [this]; exact hG.2⟩) ?_
  refine cj_seq (cj_region ?_)
  refine oj_box rfl rfl rfl (fun b2 => ?_)
  refine oj_step (y_assign rfl) rfl rfl rfl ?_
  refine oj_step (y_assign rfl) rfl rfl rfl ?_
  refine oj_step (y_assign rfl) rfl rfl rfl ?_
  refine oj_nil ?_
  refine ej_th (cj_seq (cj_region ?_))
  refine oj_step (y_loadN Tryz.isAgg28 Tryz.sizeOf28 rfl) rfl rfl rfl ?_
  refine oj_step (y_move rfl) rfl rfl rfl ?_
  refine oj_step (y_call Tryz.call17 rfl (fun w hp => k_asked_no d Ac cc l Al cl w hp.rd hp.rd hp.glo ha)) rfl rfl rfl ?_
  refine oj_step (y_move rfl) rfl rfl rfl ?_
  refine oj_step (y_extract rfl rfl) rfl rfl rfl ?_
  refine oj_step (y_extract rfl rfl) rfl rfl rfl ?_
  refine oj_step (y_extract rfl rfl) rfl rfl rfl ?_
  refine oj_step (y_extract rfl rfl) rfl rfl rfl ?_
  refine oj_alloc Tryz.zeroValue84 rfl rfl (fun b7 => ?_)
  refine oj_store rfl rfl rfl rfl Tryz.sizeOf84 rfl ?_
  refine oj_step (y_assign rfl) rfl rfl rfl ?_
  refine oj_step (y_assign rfl) rfl rfl rfl ?_
  refine oj_step (y_assign rfl) rfl rfl rfl ?_
  refine oj_nil ?_
  refine ej_th (cj_seq (cj_seq ?_))
  refine cj_regionG (gj_step (y_move rfl) rfl rfl rfl (gj_step (y_neq rfl rfl) rfl rfl rfl (gj_nil ?_)))
  refine ej_th ?_
  refine cj_cond rfl (fun h20 => ?_) (fun h20 => ?_)
  · have h20b := h20
    try simp only [sxb] at h20
    refine cj_seq ?_
    refine cj_regionG (gj_step (y_move rfl) rfl rfl rfl (gj_step (y_move rfl) rfl rfl rfl (gj_step (y_assign rfl) rfl rfl rfl (gj_step (y_assign rfl) rfl rfl rfl (gj_step (y_assign rfl) rfl rfl rfl (gj_nil ?_))))))
    refine ej_th (cj_ret (ej_then_ret ?_))
    exact ej_ret3 rfl Tryz.results6 rfl rfl rfl (fun w' hp => ⟨none, 0, rfl, hp.below, Res.nil⟩)
  · exact absurd h20 (by simpa using askE_ne ha)

theorem k_Run_ok (d : Deal) (Ac : Option Addr) (cc : Nat) (l : List Act1) (Al : Option Addr) (cl : Nat) (w : World) (hc : Rd w 1 enInt Ac d.closed) (hl0 : Rd w 3 encAct Al l) (hG : Gl w 0 WAYS) (ha : askOk d l = true) : Calls Tryz.prog 6 #[.agg #[.int .i64 d.lr, .int .i64 d.lc, .int .i64 d.tr, .int .i64 d.tf, .int .i64 d.te, .int .i64 d.tt, .int .i64 d.tg, .slice Ac d.closed.length cc, .int .i64 d.start, .int .i64 d.sum], .slice Al l.length cl] w (fun e w' => ∃ A c, e = .returned (.tuple #[.slice A (RunO d l).length c, .int .i64 (RunN d l), .int .i64 (RunE d l)]) ∧ Grow w w' ∧ Res w w' 5 encAcc A (RunO d l)) := by
  have h2 : RunN d l = (runL d l).at_ := by simp [RunN, ha]
  have h3 : RunE d l = (runL d l).e := by simp [RunE, ha]
  rw [h2, h3]
  refine enter_pure (args := [.agg #[.int .i64 d.lr, .int .i64 d.lc, .int .i64 d.tr, .int .i64 d.tf, .int .i64 d.te, .int .i64 d.tt, .int .i64 d.tg, .slice Ac d.closed.length cc, .int .i64 d.start, .int .i64 d.sum], .slice Al l.length cl]) [sl (fun b => b < w.heap.size) 1 enInt Ac d.closed, sl (fun b => b < w.heap.size) 3 encAct Al l, gl 0 WAYS] Tryz.func6 rfl (by rw [Tryz.ntmps6]; simp) (fun g hg => by simp at hg; rcases hg with rfl | rfl | rfl; exact ⟨hc, fun _ h => h⟩; exact ⟨hl0, fun _ h => h⟩; exact ⟨hG.1, fun b hb => by have : b = 0 := hb; rw [this]; exact hG.2⟩) ?_
  refine cj_seq (cj_region ?_)
  refine oj_box rfl rfl rfl (fun b2 => ?_)
  refine oj_step (y_assign rfl) rfl rfl rfl ?_
  refine oj_step (y_assign rfl) rfl rfl rfl ?_
  refine oj_step (y_assign rfl) rfl rfl rfl ?_
  refine oj_nil ?_
  refine ej_th (cj_seq (cj_region ?_))
  refine oj_step (y_loadN Tryz.isAgg28 Tryz.sizeOf28 rfl) rfl rfl rfl ?_
  refine oj_step (y_move rfl) rfl rfl rfl ?_
  refine oj_callS (fun A c => .tuple #[.agg (encLn d Ac cc (runL d l).x).toArray, .slice A (runL d l).out.length c, .int .i64 (runL d l).at_, .int .i64 (runL d l).e]) 5 encAcc (runL d l).out Tryz.call17 rfl (fun w hp => k_asked_ok d Ac cc l Al cl w hp.rd hp.rd hp.glo ha) rfl (fun A14 c14 fp14 hfp14 => ?_)
  refine oj_step (y_move rfl) rfl rfl rfl ?_
  refine oj_step (y_extract rfl rfl) rfl rfl rfl ?_
  refine oj_step (y_extract rfl rfl) rfl rfl rfl ?_
  refine oj_step (y_extract rfl rfl) rfl rfl rfl ?_
  refine oj_step (y_extract rfl rfl) rfl rfl rfl ?_
  refine oj_alloc Tryz.zeroValue84 rfl rfl (fun b7 => ?_)
  refine oj_store rfl rfl rfl rfl Tryz.sizeOf84 rfl ?_
  refine oj_step (y_assign rfl) rfl rfl rfl ?_
  refine oj_step (y_assign rfl) rfl rfl rfl ?_
  refine oj_step (y_assign rfl) rfl rfl rfl ?_
  refine oj_nil ?_
  refine ej_th (cj_seq (cj_seq ?_))
  refine cj_regionG (gj_step (y_move rfl) rfl rfl rfl (gj_step (y_neq rfl rfl) rfl rfl rfl (gj_nil ?_)))
  refine ej_th ?_
  refine cj_cond rfl (fun h20 => ?_) (fun h20 => ?_)
  · have h20b := h20
    try simp only [sxb] at h20
    have h1 : RunO d l = [] := by simp [RunO, h20]
    rw [h1]
    refine cj_seq ?_
    refine cj_regionG (gj_step (y_move rfl) rfl rfl rfl (gj_step (y_move rfl) rfl rfl rfl (gj_step (y_assign rfl) rfl rfl rfl (gj_step (y_assign rfl) rfl rfl rfl (gj_step (y_assign rfl) rfl rfl rfl (gj_nil ?_))))))
    refine ej_th (cj_ret (ej_then_ret ?_))
    exact ej_ret3 rfl Tryz.results6 rfl rfl rfl (fun w' hp => ⟨none, 0, rfl, hp.below, Res.nil⟩)
  · have h20b := h20
    try simp only [sxb] at h20
    have h1 : RunO d l = (runL d l).out := by simp [RunO, ha, h20]
    rw [h1]
    refine cj_skip (ej_th (cj_seq ?_))
    refine cj_regionG (gj_step (y_move rfl) rfl rfl rfl (gj_step (y_move rfl) rfl rfl rfl (gj_step (y_assign rfl) rfl rfl rfl (gj_step (y_assign rfl) rfl rfl rfl (gj_step (y_assign rfl) rfl rfl rfl (gj_nil ?_))))))
    refine ej_th (cj_ret ?_)
    exact ej_ret3 rfl Tryz.results6 rfl rfl rfl (fun w' hp => ⟨A14, c14, by rw [h20], hp.below, hp.resS hfp14⟩)

theorem k_Run (d : Deal) (Ac : Option Addr) (cc : Nat) (l : List Act1) (Al : Option Addr) (cl : Nat) (w : World) (hc : Rd w 1 enInt Ac d.closed) (hl0 : Rd w 3 encAct Al l) (hG : Gl w 0 WAYS) : Calls Tryz.prog 6 #[.agg #[.int .i64 d.lr, .int .i64 d.lc, .int .i64 d.tr, .int .i64 d.tf, .int .i64 d.te, .int .i64 d.tt, .int .i64 d.tg, .slice Ac d.closed.length cc, .int .i64 d.start, .int .i64 d.sum], .slice Al l.length cl] w (fun e w' => ∃ A c, e = .returned (.tuple #[.slice A (RunO d l).length c, .int .i64 (RunN d l), .int .i64 (RunE d l)]) ∧ Grow w w' ∧ Res w w' 5 encAcc A (RunO d l)) := by
  cases ha : askOk d l
  · exact k_Run_no d Ac cc l Al cl w hc hl0 hG ha
  · exact k_Run_ok d Ac cc l Al cl w hc hl0 hG ha

end Go.Proofs.YtppfniekcgnmjaaGreatDoor.Ln
namespace Go.Proofs.YtppfniekcgnmjaaGreatDoor.Ti
open Go Go.Sx Go.RowKit Um
structure DlV where
  day : Int
  who : Int
  sum : Int
instance : Inhabited DlV := ⟨⟨0, 0, 0⟩⟩
abbrev encDl (d : DlV) : List Value := [.int .i64 d.day, .int .i64 d.who, .int .i64 d.sum]
structure AlV where
  who : Int
  at_ : Int
  sum : Int
abbrev encAl (d : AlV) : List Value := [.int .i64 d.who, .int .i64 d.at_, .int .i64 d.sum]
theorem encAl_one (x : AlV) : ∀ v ∈ encAl x, v.oneCell' = true := by simp [encAl, Value.oneCell']
def AllAt (ds : List DlV) (day pe : Int) : Prop := ∀ d ∈ ds, d.day = day ∧ d.who = pe ∧ (1 ≤ d.sum ∧ d.sum ≤ 1073741824)
def prefS (ds : List DlV) (k : Nat) : Int := sumI ((ds.take k).map (·.sum))
theorem prefS_succ {ds : List DlV} {k : Nat} {d : DlV} (h : ds[k]? = some d) : prefS ds (k + 1) = prefS ds k + d.sum := by
  unfold prefS
  rw [map_take _ h, sumI_append]
  simp [sumI]
theorem prefS_bd {ds : List DlV} {day pe : Int} (h : AllAt ds day pe) (k : Nat) : 0 ≤ prefS ds k ∧ prefS ds k ≤ 1073741824 * ds.length := by
  unfold prefS
  have h1 : ∀ x ∈ (ds.take k).map (·.sum), 0 ≤ x ∧ x ≤ 1073741824 := fun x hx => by
    obtain ⟨d, hd, rfl⟩ := List.mem_map.1 hx
    have := (h d (List.mem_of_mem_take hd)).2.2
    omega
  have h2 := sumI_le_mul (m := 1073741824) (fun x hx => (h1 x hx).2)
  rw [List.length_map, List.length_take] at h2
  exact ⟨sumI_nonneg (fun x hx => (h1 x hx).1), by omega⟩
/-! ### Heads without links -/
abbrev ivs (l : List Int) : List Value := l.map fun n => Value.int .i64 n
def flI (i : Nat) : List Int := List.replicate i (-1) ++ List.replicate (24 - i) 0
def jlI (i : Nat) : List Int := (List.range i).map (fun n : Nat => (n : Int)) ++ List.replicate (24 - i) (-1)
theorem flI_len {i : Nat} (h : i ≤ 24) : (flI i).length = 24 := by simp [flI]; omega
theorem jlI_len {i : Nat} (h : i ≤ 24) : (jlI i).length = 24 := by simp [jlI]; omega
theorem flI_set {i : Nat} (h : i < 24) : (flI i).set i (-1) = flI (i + 1) := by
  unfold flI
  rw [List.set_append_right _ _ (by simp), List.length_replicate, Nat.sub_self, show 24 - i = (24 - (i + 1)) + 1 by omega, List.replicate_succ, List.set_cons_zero, List.replicate_succ' (n := i), List.append_assoc]
  rfl
theorem jlI_set {i : Nat} (h : i < 24) : (jlI i).set i (i : Int) = jlI (i + 1) := by
  unfold jlI
  rw [List.set_append_right _ _ (by simp), List.length_map, List.length_range, Nat.sub_self, show 24 - i = (24 - (i + 1)) + 1 by omega, List.replicate_succ, List.set_cons_zero, List.range_succ, List.map_append, List.append_assoc]
  rfl
theorem jlI_get {i : Nat} (h : i < 24) : (jlI i)[i]? = some (-1) := by
  unfold jlI
  rw [List.getElem?_append_right (by simp), List.length_map, List.length_range, Nat.sub_self, show 24 - i = (24 - (i + 1)) + 1 by omega, List.replicate_succ]; rfl
theorem flI_setV {i : Nat} (h : i < 24) : (ivs (flI i)).set (0 + ((i : Nat) : Int).toNat * 1) (.int .i64 (-1)) = ivs (flI (i + 1)) := by
  rw [show 0 + ((i : Nat) : Int).toNat * 1 = i by omega, ← flI_set h]
  exact (List.map_set ..).symm
theorem jlI_setV {i : Nat} (h : i < 24) : (ivs (jlI i)).set (0 + ((i : Nat) : Int).toNat * 1) (.int .i64 (i : Nat)) = ivs (jlI (i + 1)) := by
  rw [show 0 + ((i : Nat) : Int).toNat * 1 = i by omega, ← jlI_set h]
  exact (List.map_set ..).symm
theorem jlI_getV {i : Nat} (h : i < 24) : (ivs (jlI i))[0 + ((i : Nat) : Int).toNat * 1]? = some (.int .i64 (-1)) := by
  rw [show 0 + ((i : Nat) : Int).toNat * 1 = i by omega]
  unfold ivs
  rw [List.getElem?_map, jlI_get h]; rfl
theorem hd_at (a b c d e : Value) {p : Nat} (h : p < 24) : ([a, b, c, d, e] ++ ivs (jlI 24))[5 + ((p : Nat) : Int).toNat * 1]? = some (.int .i64 (p : Nat)) := by
  rw [show 5 + ((p : Nat) : Int).toNat * 1 = 5 + p by omega, List.getElem?_append_right (by simp)]
  unfold ivs jlI
  rw [List.getElem?_map, show 5 + p - [a, b, c, d, e].length = p by simp, List.getElem?_append_left (by simpa using h), List.getElem?_map, List.getElem?_range h]; rfl
/-! ### Watches -/
def watB (wd ws wl wm : Int) : Bool := btw 1 wd 366 && btw 1 ws 1073741824 && btw 1 wl ws && btw 1 wm 64
/-- the dealings that are gone through, with their indices -/
def zipI : Nat → List DlV → List (Nat × DlV)
  | _, [] => []
  | i, d :: l => (i, d) :: zipI (i + 1) l
theorem zipI_len : ∀ (l : List DlV) (i : Nat), (zipI i l).length = l.length
  | [], _ => rfl
  | _ :: l, i => by rw [zipI, List.length_cons, List.length_cons, zipI_len l]
theorem zipI_get : ∀ (l : List DlV) (i j : Nat), (zipI i l)[j]? = l[j]?.map fun d => (i + j, d)
  | [], _, _ => rfl
  | d :: l, i, 0 => rfl
  | d :: l, i, j + 1 => by
    rw [zipI, List.getElem?_cons_succ, List.getElem?_cons_succ, zipI_get l]
    simp only [Nat.add_assoc, Nat.add_comm 1 j]
def TB (J Jx : List Fact → Nat → World → Prop) (X : List Fact) (k : Nat) (b : Bool) (W : World) : Prop := if b = true then J X k W else Jx X k W
/-- the first dealing with which the sum is reached -/
def frsF (ds : List DlV) (ws : Int) : Nat → Nat → Option Nat
  | 0, _ => none
  | n + 1, k => if ws ≤ prefS ds (k + 1) then some k else frsF ds ws n (k + 1)
def AlaL (ds : List DlV) (ws pe : Int) : List AlV := match frsF ds ws ds.length 0 with
  | none => []
  | some k => [⟨pe, k, prefS ds (k + 1)⟩]
theorem frsF_at {ds : List DlV} {ws : Int} {k : Nat} (h : k < ds.length) : frsF ds ws (ds.length - k) k = if ws ≤ prefS ds (k + 1) then some k else frsF ds ws (ds.length - (k + 1)) (k + 1) := by
  rw [show ds.length - k = (ds.length - (k + 1)) + 1 by omega, frsF]
theorem ala_none {ds : List DlV} {ws pe : Int} (h : frsF ds ws ds.length 0 = none) : AlaL ds ws pe = [] := by rw [AlaL, h]
theorem ala_some {ds : List DlV} {ws pe : Int} {k : Nat} (h : frsF ds ws ds.length 0 = some k) : AlaL ds ws pe = [⟨pe, k, prefS ds (k + 1)⟩] := by rw [AlaL, h]
theorem fidx_const {b : Bool} {ds : List DlV} (h : 0 < ds.length) : fidx (fun _ => b) ds 0 = if b = true then 0 else -1 := by
  cases b with
  | true => cases ds with
    | nil => simp at h
    | cons d l => simp [fidx]
  | false =>
    have : ∀ (l : List DlV) (i : Int), fidx (fun _ => false) l i = -1 := fun l => by
      induction l with
      | nil => intro i; rfl
      | cons d l ih => intro i; rw [fidx]; simp only [Bool.false_eq_true, if_false]; exact ih _
    rw [this]; rfl
theorem wat_bd {wd ws wl wm : Int} (h : watB wd ws wl wm = true) : (1 ≤ wd ∧ wd ≤ 366) ∧ (1 ≤ ws ∧ ws ≤ 1073741824) ∧ (1 ≤ wl ∧ wl ≤ ws) ∧ (1 ≤ wm ∧ wm ≤ 64) := by
  unfold watB at h
  simp only [Bool.and_eq_true] at h
  exact ⟨btw_t h.1.1.1, btw_t h.1.1.2, btw_t h.1.2, btw_t h.2⟩
instance : Inhabited AlV := ⟨⟨0, 0, 0⟩⟩
def AlmE (wd ws wl wm : Int) : Int := if watB wd ws wl wm then 0 else 83
def AlmL (ds : List DlV) (wd ws wl wm pe : Int) : List AlV := if watB wd ws wl wm then AlaL ds ws pe else []
theorem alm_no {wd ws wl wm : Int} (h : ¬ AlmE wd ws wl wm = 0) (ds : List DlV) (pe : Int) : AlmE wd ws wl wm = 83 ∧ AlmL ds wd ws wl wm pe = [] := by
  cases hw : watB wd ws wl wm with
  | true => exact absurd (by rw [AlmE, hw]; rfl) h
  | false => exact ⟨by rw [AlmE, hw]; rfl, by rw [AlmL, hw]; rfl⟩
theorem alm_yes {wd ws wl wm : Int} (h : AlmE wd ws wl wm = 0) (ds : List DlV) (pe : Int) : watB wd ws wl wm = true ∧ AlmL ds wd ws wl wm pe = AlaL ds ws pe := by
  cases hw : watB wd ws wl wm with
  | true => exact ⟨rfl, by rw [AlmL, hw]; rfl⟩
  | false => rw [AlmE, hw] at h; cases h
theorem ala_one (t pe s ws : Int) : AlaL [⟨t, pe, s⟩] ws pe = if ws ≤ s then [⟨pe, 0, s⟩] else [] := by
  have e : prefS [⟨t, pe, s⟩] (0 + 1) = s := by simp [prefS, sumI]
  unfold AlaL
  rw [show ([⟨t, pe, s⟩] : List DlV).length = 1 from rfl, frsF, e]
  by_cases h : ws ≤ s
  · rw [if_pos h, if_pos h]; simp only [e]; rfl
  · rw [if_neg h, if_neg h]; rfl
theorem ala_two (t pe s u ws : Int) : AlaL [⟨t, pe, s⟩, ⟨t, pe, u⟩] ws pe = if ws ≤ s then [⟨pe, 0, s⟩] else if ws ≤ s + u then [⟨pe, 1, s + u⟩] else [] := by
  have e : prefS [⟨t, pe, s⟩, ⟨t, pe, u⟩] (0 + 1) = s := by simp [prefS, sumI]
  have e2 : prefS [⟨t, pe, s⟩, ⟨t, pe, u⟩] (0 + 1 + 1) = s + u := by simp [prefS, sumI]
  unfold AlaL
  rw [show ([⟨t, pe, s⟩, ⟨t, pe, u⟩] : List DlV).length = 2 from rfl, frsF, e]
  by_cases h : ws ≤ s
  · rw [if_pos h, if_pos h]; simp only [e]; rfl
  · rw [if_neg h, if_neg h, frsF, e2]
    by_cases h2 : ws ≤ s + u
    · rw [if_pos h2, if_pos h2]; simp only [e2]; rfl
    · rw [if_neg h2, if_neg h2]; rfl
theorem alm_le (ds : List DlV) (wd ws wl wm pe : Int) : (AlmL ds wd ws wl wm pe).length ≤ 1 := by
  unfold AlmL AlaL
  split
  · split <;> simp
  · simp
end Go.Proofs.YtppfniekcgnmjaaGreatDoor.Ti
namespace Go.Proofs.YtppfniekcgnmjaaGreatDoor.Ti
open Go.Sx Go.RowKit
set_option maxRecDepth 20000

end Go.Proofs.YtppfniekcgnmjaaGreatDoor.Ti
namespace Go.Proofs.YtppfniekcgnmjaaGreatDoor.Ti
open Go.Sx Go.RowKit Um
set_option maxRecDepth 20000
theorem k_person (n : Int) (w : World)  : Calls Tryz.prog 53 #[.int .i64 n] w (fun e w' => e = .returned (.bool (btw 0 n 23)) ∧ Grow w w') := by
  refine enter_pure (args := [.int .i64 n]) [] Tryz.func53 rfl (by rw [Tryz.ntmps53]; simp) (by simp) ?_
  refine cj_seq ?_
  refine cj_regionG (gj_step (y_assign rfl) rfl rfl rfl (gj_nil ?_))
  refine ej_th (cj_seq ?_)
  refine cj_regionG ?_
  refine gj_step (y_move rfl) rfl rfl rfl (?_)
  refine gj_step (y_call Tryz.call48 rfl (fun w hp => k_within _ _ _ w)) rfl rfl rfl ?_
  refine gj_step (y_assign rfl) rfl rfl rfl (?_)
  refine gj_nil ?_
  refine ej_th (cj_ret ?_)
  exact ej_ret1 rfl Tryz.results53 rfl (fun w' hp => ⟨rfl, hp.below⟩)

theorem k_IX2 (f : Nat) (w : World)  : Calls Tryz.prog 122 #[.slice none 0 0, .func (.func f) #[] #[]] w (fun e w' => e = .returned (.int .i64 (-1)) ∧ Grow w w') := by
  refine enter_pure (args := [.slice none 0 0, .func (.func f) #[] #[]]) [] Tryz.func122 rfl (by rw [Tryz.ntmps122]; simp) (by simp) ?_
  refine cj_seq ?_
  refine cj_regionG (gj_step (y_assign rfl) rfl rfl rfl (gj_nil ?_))
  refine ej_th (cj_seq (cj_seq ?_))
  refine cj_regionG (gj_step (y_move rfl) rfl rfl rfl (gj_step (y_lenA Tryz.underlying94 rfl) rfl rfl rfl (gj_step (y_move rfl) rfl rfl rfl (gj_nil ?_))))
  refine ej_th (cj_block ?_)
  refine cj_lpic (X := Unit) [(0, _), (1, _), (7, _)] (fun _ => True) (fun _ => [(8, .int .i64 0)]) (fun _ => 0) () (trivial) ⟨rfl, rfl, rfl, rfl, trivial⟩ ?_
  rintro ⟨⟩ -
  dsimp only [List.cons_append, List.nil_append]
  refine cj_seq ?_
  refine cj_regionG (gj_step (y_lss rfl rfl) rfl rfl rfl (gj_nil ?_))
  refine ej_th (cj_seq ?_)
  refine cj_cond rfl (fun h9 => ?_) (fun h9 => ?_)
  · exact absurd h9 (by decide)
  · have h9b := h9
    try simp only [sxb] at h9
    refine cj_exit (ej_then_exit (ej_then_exit (ej_blk_hit (ej_th (cj_seq ?_)))))
    refine cj_regionG (gj_step (y_assign rfl) rfl rfl rfl (gj_nil ?_))
    refine ej_th (cj_ret ?_)
    exact ej_ret1 rfl Tryz.results122 rfl (fun w' hp => ⟨rfl, hp.below⟩)

theorem k_CT2 (f : Nat) (w : World)  : Calls Tryz.prog 88 #[.slice none 0 0, .func (.func f) #[] #[]] w (fun e w' => e = .returned (.bool false) ∧ Grow w w') := by
  refine enter_pure (args := [.slice none 0 0, .func (.func f) #[] #[]]) [] Tryz.func88 rfl (by rw [Tryz.ntmps88]; simp) (by simp) ?_
  refine cj_seq ?_
  refine cj_regionG (gj_step (y_assign rfl) rfl rfl rfl (gj_nil ?_))
  refine ej_th (cj_seq ?_)
  refine cj_regionG ?_
  refine gj_step (y_move rfl) rfl rfl rfl (gj_step (y_move rfl) rfl rfl rfl (?_))
  refine gj_step (y_call Tryz.call122 rfl (fun w hp => k_IX2 f w)) rfl rfl rfl ?_
  refine gj_step (y_geq rfl rfl) rfl rfl rfl (gj_step (y_assign rfl) rfl rfl rfl (?_))
  refine gj_nil ?_
  refine ej_th (cj_ret ?_)
  exact ej_ret1 rfl Tryz.results88 rfl (fun w' hp => ⟨rfl, hp.below⟩)

theorem k_linked  (w : World)  : Calls Tryz.prog 52 #[.slice none 0 0] w (fun e w' => e = .returned (.bool true) ∧ Grow w w') := by
  refine enter_pure (args := [.slice none 0 0]) [] Tryz.func52 rfl (by rw [Tryz.ntmps52]; simp) (by simp) ?_
  refine cj_seq ?_
  refine cj_regionG (gj_step (y_assign rfl) rfl rfl rfl (gj_nil ?_))
  refine ej_th (cj_seq ?_)
  refine cj_regionG ?_
  refine gj_step (y_move rfl) rfl rfl rfl (gj_step (y_lenA Tryz.underlying94 rfl) rfl rfl rfl (gj_step (y_leq rfl rfl) rfl rfl rfl (gj_step (y_move rfl) rfl rfl rfl (?_))))
  refine gj_g 3 6 9 rfl rfl rfl rfl (fun hg6 => gj_yes rfl rfl rfl (y_move rfl) rfl rfl (gj_yes rfl rfl rfl (y_call Tryz.call88 rfl (fun w hp => k_CT2 89 w)) rfl rfl (gj_yes rfl rfl rfl (y_not rfl) rfl rfl (gj_nil rfl)))) ?_
  refine gj_step (y_and rfl rfl rfl) rfl rfl rfl (gj_step (y_assign rfl) rfl rfl rfl (?_))
  refine gj_nil ?_
  refine ej_th (cj_ret ?_)
  exact ej_ret1 rfl Tryz.results52 rfl (fun w' hp => ⟨rfl, hp.below⟩)

theorem k_join (i b2 bl bj : Nat) (w : World) (hi : i < 24) (hO : ∀ f ∈ [ownB b2 (cellsB 95 (ivs (jlI i)))], f.P w ∧ ∀ b, f.fp b → b < w.heap.size) (hap : [ownB b2 (cellsB 95 (ivs (jlI i)))].Pairwise (fun f g => ∀ b, f.fp b → ¬ g.fp b)) (hS : ∀ g ∈ [ownB bl (cellsB 94 [.slice none 0 0])], g.P w ∧ ∀ j, g.fp j → j < w.heap.size ∧ ∀ f ∈ [ownB b2 (cellsB 95 (ivs (jlI i)))], ¬ f.fp j) : Calls Tryz.prog 90 #[.int .i64 (i : Nat), .int .i64 (i : Nat), .pointer (some ⟨b2, 0, none⟩), .pointer (some ⟨bl, 0, none⟩), .pointer (some ⟨bj, 0, none⟩)] w (fun e w' => ∃ _ : Unit, e = .returned (.tuple #[]) ∧ Giv [ownB b2 (cellsB 95 (ivs (jlI i)))] w w' [ownB b2 (cellsB 95 (ivs (jlI (i + 1))))]) := by
  refine enterO (args := [.int .i64 (i : Nat), .int .i64 (i : Nat), .pointer (some ⟨b2, 0, none⟩), .pointer (some ⟨bl, 0, none⟩), .pointer (some ⟨bj, 0, none⟩)]) [ownB b2 (cellsB 95 (ivs (jlI i)))] [ownB bl (cellsB 94 [.slice none 0 0])] Tryz.func90 rfl (by rw [Tryz.ntmps90]; simp) hO hap hS ?_
  refine cj_seq (cj_seq ?_)
  refine cj_regionG (gj_step (y_move rfl) rfl rfl rfl (gj_step (y_ixArr Tryz.underlying95 Tryz.sizeOf3 rfl rfl (⟨by omega, by omega⟩)) rfl rfl rfl (gj_step (y_load1 Tryz.isAgg3 rfl (jlI_getV hi)) rfl rfl rfl (gj_step (y_geq rfl rfl) rfl rfl rfl (gj_nil ?_)))))
  refine ej_th ?_
  refine cj_cond rfl (fun h12 => ?_) (fun h12 => ?_)
  · exact absurd h12 (by decide)
  · have h12b := h12
    try simp only [sxb] at h12
    refine cj_skip (ej_th (cj_seq (cj_region ?_)))
    refine oj_step (y_move rfl) rfl rfl rfl ?_
    refine oj_step (y_move rfl) rfl rfl rfl ?_
    refine oj_step (y_ixArr Tryz.underlying95 Tryz.sizeOf3 rfl rfl (⟨by omega, by omega⟩)) rfl rfl rfl ?_
    refine oj_storeK rfl rfl rfl rfl Tryz.sizeOf3 (by have := jlI_len (i := i) (by omega); simp only [ivs, List.length_map, this]; omega) ?_
    rw [jlI_setV hi]
    refine oj_nil ?_
    refine ej_th (cj_seq ?_)
    refine cj_regionG (gj_step (y_loadS1 Tryz.isAgg94 rfl rfl) rfl rfl rfl (gj_step (y_lenA Tryz.underlying94 rfl) rfl rfl rfl (gj_step (y_move rfl) rfl rfl rfl (gj_nil ?_))))
    refine ej_th (cj_block ?_)
    refine cj_lpic (X := Unit) [(0, _), (1, _), (4, _), (16, _), (17, _)] (fun _ => True) (fun _ => [(18, .int .i64 0)]) (fun _ => 0) () (trivial) ⟨rfl, rfl, rfl, rfl, rfl, rfl, trivial⟩ ?_
    rintro ⟨⟩ -
    dsimp only [List.cons_append, List.nil_append]
    refine cj_seq ?_
    refine cj_regionG (gj_step (y_lss rfl rfl) rfl rfl rfl (gj_nil ?_))
    refine ej_th (cj_seq ?_)
    refine cj_cond rfl (fun h19 => ?_) (fun h19 => ?_)
    · exact absurd h19 (by decide)
    · have h19b := h19
      try simp only [sxb] at h19
      refine cj_exit (ej_then_exit (ej_then_exit (ej_blk_hit ?_)))
      exact ej_end0 rfl Tryz.results90 (fun w' hp => ⟨(), rfl, hp.givT _⟩)

theorem k_heads  (w : World)  : Calls Tryz.prog 54 #[.slice none 0 0] w (fun e w' => e = .returned (.agg #[.int .i64 0, .int .i64 1, .int .i64 2, .int .i64 3, .int .i64 4, .int .i64 5, .int .i64 6, .int .i64 7, .int .i64 8, .int .i64 9, .int .i64 10, .int .i64 11, .int .i64 12, .int .i64 13, .int .i64 14, .int .i64 15, .int .i64 16, .int .i64 17, .int .i64 18, .int .i64 19, .int .i64 20, .int .i64 21, .int .i64 22, .int .i64 23]) ∧ Grow w w') := by
  refine enter_pure (args := [.slice none 0 0]) [] Tryz.func54 rfl (by rw [Tryz.ntmps54]; simp) (by simp) ?_
  refine cj_seq (cj_region ?_)
  refine oj_box rfl rfl rfl (fun b1 => ?_)
  refine oj_alloc Tryz.zeroValue95 rfl rfl (fun b2 => ?_)
  refine oj_nil ?_
  refine ej_th (cj_seq (cj_seq ?_))
  refine cj_eqO [ownB b2 (cellsB 95 (ivs (flI 0))), ownB b1 (cellsB 94 [.slice none 0 0])] (by kernel_rfl) ?_
  refine cj_regionG (gj_step (y_move rfl) rfl rfl rfl (gj_nil ?_))
  refine ej_th (cj_block ?_)
  refine cj_lpi (X := Nat) [(1, _), (2, _)] (fun i => i ≤ 24) (fun i => [(6, .int .i64 (i : Nat))]) (fun i => [ownB b2 (cellsB 95 (ivs (flI i))), ownB b1 (cellsB 94 [.slice none 0 0])]) (fun i => []) (fun i => 24 - i) 0 (by omega) ⟨rfl, rfl, rfl, trivial⟩ ?_
  rintro i hi
  dsimp only [List.cons_append, List.nil_append]
  refine cj_seq ?_
  refine cj_regionG (gj_step (y_lss rfl rfl) rfl rfl rfl (gj_nil ?_))
  refine ej_th (cj_seq ?_)
  refine cj_cond rfl (fun h7 => ?_) (fun h7 => ?_)
  · have h7b := h7
    try simp only [sxb] at h7
    refine cj_skip (ej_th (cj_seq (cj_block (cj_seq ?_))))
    refine cj_regionG (gj_step (y_move rfl) rfl rfl rfl (gj_step (y_assign rfl) rfl rfl rfl (gj_nil ?_)))
    refine ej_th (cj_region ?_)
    refine oj_step (y_move rfl) rfl rfl rfl ?_
    refine oj_step (y_ixArr Tryz.underlying95 Tryz.sizeOf3 rfl rfl (⟨by omega, by omega⟩)) rfl rfl rfl ?_
    refine oj_storeK rfl rfl rfl rfl Tryz.sizeOf3 (by have := flI_len (i := i) (by omega); simp only [ivs, List.length_map, this]; omega) ?_
    rw [flI_setV (by omega)]
    refine oj_nil ?_
    refine ej_blk (ej_th ?_)
    refine cj_regionG (gj_step (y_add rfl rfl (by omega)) rfl rfl rfl (gj_step (y_move rfl) rfl rfl rfl (gj_nil ?_)))
    exact ej_nx (i + 1) (by omega) (by omega) ⟨rfl, rfl, rfl, trivial⟩
  · have h7b := h7
    try simp only [sxb] at h7
    refine cj_exit (ej_then_exit (ej_then_exit (ej_blk_hit (ej_th (cj_seq ?_)))))
    have hi24 : i = 24 := by omega
    subst hi24
    refine cj_region ?_
    refine oj_alloc Tryz.zeroValue213 rfl rfl (fun b4 => ?_)
    refine oj_nil ?_
    refine ej_th (cj_seq (cj_region ?_))
    refine oj_step (y_makeFunc rfl rfl) rfl rfl rfl ?_
    refine oj_store rfl rfl rfl rfl Tryz.sizeOf213 rfl ?_
    refine oj_nil ?_
    refine ej_th (cj_seq (cj_seq ?_))
    refine cj_eqO [ownB b4 (cellsB 213 [.func (.func 90) #[] #[.pointer (some ⟨b2, 0, none⟩), .pointer (some ⟨b1, 0, none⟩), .pointer (some ⟨b4, 0, none⟩)]]), ownB b2 (cellsB 95 (ivs (jlI 0))), ownB b1 (cellsB 94 [.slice none 0 0])] (by kernel_rfl) ?_
    refine cj_regionG (gj_step (y_move rfl) rfl rfl rfl (gj_nil ?_))
    refine ej_th (cj_block ?_)
    refine cj_lpi (X := Nat) [(2, _), (4, _)] (fun i => i ≤ 24) (fun i => [(13, .int .i64 (i : Nat))]) (fun i => [ownB b4 (cellsB 213 [.func (.func 90) #[] #[.pointer (some ⟨b2, 0, none⟩), .pointer (some ⟨b1, 0, none⟩), .pointer (some ⟨b4, 0, none⟩)]]), ownB b2 (cellsB 95 (ivs (jlI i))), ownB b1 (cellsB 94 [.slice none 0 0])]) (fun i => []) (fun i => 24 - i) 0 (by omega) ⟨rfl, rfl, rfl, trivial⟩ ?_
    rintro i hi
    dsimp only [List.cons_append, List.nil_append]
    refine cj_seq ?_
    refine cj_regionG (gj_step (y_lss rfl rfl) rfl rfl rfl (gj_nil ?_))
    refine ej_th (cj_seq ?_)
    refine cj_cond rfl (fun h14 => ?_) (fun h14 => ?_)
    · have h14b := h14
      try simp only [sxb] at h14
      refine cj_skip (ej_th (cj_seq (cj_block (cj_seq ?_))))
      refine cj_regionG (gj_step (y_move rfl) rfl rfl rfl (gj_step (y_assign rfl) rfl rfl rfl (gj_nil ?_)))
      refine ej_th (cj_region ?_)
      refine oj_step (y_load1 Tryz.isAgg213 rfl rfl) rfl rfl rfl ?_
      refine oj_step (y_move rfl) rfl rfl rfl ?_
      refine oj_step (y_move rfl) rfl rfl rfl ?_
      refine oj_callL (X := Unit) (fun _ => .tuple #[]) [ownB b2 (cellsB 95 (ivs (jlI i)))] (fun _ => [ownB b2 (cellsB 95 (ivs (jlI (i + 1))))]) Tryz.call90 rfl rfl (fun w1 hp => by
        obtain ⟨q1, q2, q3⟩ := hp.ownL (Os := [ownB b2 (cellsB 95 (ivs (jlI i)))]) inferInstance
        have q4 := hp.ownR (Os := [ownB b2 (cellsB 95 (ivs (jlI i)))]) inferInstance
        exact k_join i b2 b1 b4 w1 (by omega) q1 q2 (fun g hg => by
          rw [List.mem_singleton.1 hg]
          exact q4 _ HasB.mem)) rfl (fun _ => ?_)
      dsimp only [List.cons_append, List.nil_append]
      refine oj_nil ?_
      refine ej_blk (ej_th ?_)
      refine cj_regionG (gj_step (y_add rfl rfl (by omega)) rfl rfl rfl (gj_step (y_move rfl) rfl rfl rfl (gj_nil ?_)))
      refine ej_takes [ownB b4 (cellsB 213 [.func (.func 90) #[] #[.pointer (some ⟨b2, 0, none⟩), .pointer (some ⟨b1, 0, none⟩), .pointer (some ⟨b4, 0, none⟩)]]), ownB b2 (cellsB 95 (ivs (jlI (i + 1)))), ownB b1 (cellsB 94 [.slice none 0 0])] ?_
      exact ej_nx (i + 1) (by omega) (by omega) ⟨rfl, rfl, rfl, trivial⟩
    · have h14b := h14
      try simp only [sxb] at h14
      refine cj_exit (ej_then_exit (ej_then_exit (ej_blk_hit (ej_th (cj_seq ?_)))))
      have hi24 : i = 24 := by omega
      subst hi24
      refine cj_eqO [ownB b4 (cellsB 213 [.func (.func 90) #[] #[.pointer (some ⟨b2, 0, none⟩), .pointer (some ⟨b1, 0, none⟩), .pointer (some ⟨b4, 0, none⟩)]]), ownB b2 (cellsB 95 [.int .i64 0, .int .i64 1, .int .i64 2, .int .i64 3, .int .i64 4, .int .i64 5, .int .i64 6, .int .i64 7, .int .i64 8, .int .i64 9, .int .i64 10, .int .i64 11, .int .i64 12, .int .i64 13, .int .i64 14, .int .i64 15, .int .i64 16, .int .i64 17, .int .i64 18, .int .i64 19, .int .i64 20, .int .i64 21, .int .i64 22, .int .i64 23]), ownB b1 (cellsB 94 [.slice none 0 0])] (by kernel_rfl) ?_
      refine cj_region ?_
      refine oj_step (y_loadN Tryz.isAgg95 Tryz.sizeOf95 rfl) rfl rfl rfl ?_
      refine oj_store rfl rfl rfl rfl Tryz.sizeOf95 rfl ?_
      refine oj_nil ?_
      refine ej_th (cj_ret ?_)
      exact ej_retC1 rfl Tryz.results54 rfl (y_loadN Tryz.isAgg95 Tryz.sizeOf95 rfl) (fun w' hp => ⟨rfl, hp.below⟩)

end Go.Proofs.YtppfniekcgnmjaaGreatDoor.Ti
namespace Go.Proofs.YtppfniekcgnmjaaGreatDoor.Ti
open Go.Sx Go.RowKit
set_option maxRecDepth 20000
theorem fa33_0 : FieldIs Tryz.prog 33 0 0 1 false := ⟨⟨_, _, Tryz.underlying33, rfl, rfl, Tryz.sizeOf3, Tryz.isAgg3, by decide⟩⟩
theorem fa33_1 : FieldIs Tryz.prog 33 1 1 1 false := ⟨⟨_, _, Tryz.underlying33, rfl, rfl, Tryz.sizeOf3, Tryz.isAgg3, by decide⟩⟩
theorem fa33_2 : FieldIs Tryz.prog 33 2 2 1 false := ⟨⟨_, _, Tryz.underlying33, rfl, rfl, Tryz.sizeOf3, Tryz.isAgg3, by decide⟩⟩
theorem fa33_3 : FieldIs Tryz.prog 33 3 3 1 false := ⟨⟨_, _, Tryz.underlying33, rfl, rfl, Tryz.sizeOf3, Tryz.isAgg3, by decide⟩⟩
theorem fa49_0 : FieldIs Tryz.prog 49 0 0 1 false := ⟨⟨_, _, Tryz.underlying49, rfl, rfl, Tryz.sizeOf3, Tryz.isAgg3, by decide⟩⟩
theorem fa49_1 : FieldIs Tryz.prog 49 1 1 1 false := ⟨⟨_, _, Tryz.underlying49, rfl, rfl, Tryz.sizeOf3, Tryz.isAgg3, by decide⟩⟩
theorem fa49_2 : FieldIs Tryz.prog 49 2 2 1 false := ⟨⟨_, _, Tryz.underlying49, rfl, rfl, Tryz.sizeOf3, Tryz.isAgg3, by decide⟩⟩
theorem st97 : StructIs Tryz.prog 97 [(0, 4), (4, 1), (5, 24)] [.int .i64 0, .int .i64 0, .int .i64 0, .int .i64 0, .slice none 0 0, .int .i64 0, .int .i64 0, .int .i64 0, .int .i64 0, .int .i64 0, .int .i64 0, .int .i64 0, .int .i64 0, .int .i64 0, .int .i64 0, .int .i64 0, .int .i64 0, .int .i64 0, .int .i64 0, .int .i64 0, .int .i64 0, .int .i64 0, .int .i64 0, .int .i64 0, .int .i64 0, .int .i64 0, .int .i64 0, .int .i64 0, .int .i64 0] := ⟨⟨_, Tryz.underlying97, fun w => by simp [Tryz.sizeOf33, Tryz.sizeOf50, Tryz.sizeOf95], Tryz.zeroValue97⟩⟩
end Go.Proofs.YtppfniekcgnmjaaGreatDoor.Ti
namespace Go.Proofs.YtppfniekcgnmjaaGreatDoor.Ti
open Go.Sx Go.RowKit Um
set_option maxRecDepth 20000
theorem k_watchOf_ok (ds : List DlV) (A : Option Addr) (c : Nat) (wd ws wl wm : Int) (day : Int) (pe : Nat) (w : World) (hl : Rd w 3 encDl A ds) (hds : AllAt ds day (pe : Nat)) (hpe : pe < 24) (hday : 0 ≤ day ∧ day ≤ 36500) (hl2 : ds.length ≤ 2) (hok : watB wd ws wl wm = true) : Calls Tryz.prog 21 #[.slice A ds.length c, .slice none 0 0, .agg #[.int .i64 wd, .int .i64 ws, .int .i64 wl, .int .i64 wm]] w (fun e w' => e = .returned (.tuple #[.agg #[.int .i64 wd, .int .i64 ws, .int .i64 wl, .int .i64 wm, .slice A ds.length c, .int .i64 0, .int .i64 1, .int .i64 2, .int .i64 3, .int .i64 4, .int .i64 5, .int .i64 6, .int .i64 7, .int .i64 8, .int .i64 9, .int .i64 10, .int .i64 11, .int .i64 12, .int .i64 13, .int .i64 14, .int .i64 15, .int .i64 16, .int .i64 17, .int .i64 18, .int .i64 19, .int .i64 20, .int .i64 21, .int .i64 22, .int .i64 23], .int .i64 0]) ∧ Grow w w') := by
  refine enter_pure (args := [.slice A ds.length c, .slice none 0 0, .agg #[.int .i64 wd, .int .i64 ws, .int .i64 wl, .int .i64 wm]]) [sl (fun b => b < w.heap.size) 3 encDl A ds] Tryz.func21 rfl (by rw [Tryz.ntmps21]; simp) (fun g hg => by simp at hg; subst hg; exact ⟨hl, fun _ h => h⟩) ?_
  refine cj_seq (cj_region ?_)
  refine oj_box rfl rfl rfl (fun b5 => ?_)
  refine oj_alloc Tryz.zeroValue97 rfl rfl (fun b6 => ?_)
  refine oj_step (y_assign rfl) rfl rfl rfl ?_
  refine oj_nil ?_
  refine ej_th (cj_seq ?_)
  refine cj_regionG ?_
  refine gj_step (y_move rfl) rfl rfl rfl (?_)
  refine gj_step (y_call Tryz.call52 rfl (fun w hp => k_linked w)) rfl rfl rfl ?_
  refine gj_step (y_not rfl) rfl rfl rfl (gj_step (y_move rfl) rfl rfl rfl (?_))
  refine gj_g 3 15 18 rfl rfl rfl rfl (fun hg15 => gj_yes rfl rfl rfl (y_move rfl) rfl rfl (gj_yes rfl rfl rfl (y_lenA Tryz.underlying50 rfl) rfl rfl (gj_yes rfl rfl rfl (y_gtr rfl rfl) rfl rfl (gj_nil rfl)))) ?_
  refine gj_step (y_or rfl rfl rfl) rfl rfl rfl (gj_step (y_assign rfl) rfl rfl rfl (?_))
  refine gj_nil ?_
  refine ej_th (cj_seq ?_)
  refine cj_regionG (gj_step (y_assign rfl) rfl rfl rfl (gj_nil ?_))
  refine ej_th (cj_seq (cj_seq ?_))
  refine cj_regionG (gj_step (y_move rfl) rfl rfl rfl (gj_step (y_lenA Tryz.underlying50 rfl) rfl rfl rfl (gj_step (y_move rfl) rfl rfl rfl (gj_nil ?_))))
  refine ej_th (cj_block ?_)
  refine cj_lpi (X := Nat × Bool × Int) [(0, _), (1, _), (5, _), (6, _), (7, _), (20, _), (21, _)] (fun ⟨k, wr, la⟩ => k ≤ ds.length ∧ wr = false ∧ (0 ≤ la ∧ la ≤ day)) (fun ⟨k, wr, la⟩ => [(22, .int .i64 (k : Nat)), (8, .bool wr), (9, .int .i64 la)]) (fun ⟨k, wr, la⟩ => [ownB b6 (cellsB 97 [.int .i64 0, .int .i64 0, .int .i64 0, .int .i64 0, .slice none 0 0, .int .i64 0, .int .i64 0, .int .i64 0, .int .i64 0, .int .i64 0, .int .i64 0, .int .i64 0, .int .i64 0, .int .i64 0, .int .i64 0, .int .i64 0, .int .i64 0, .int .i64 0, .int .i64 0, .int .i64 0, .int .i64 0, .int .i64 0, .int .i64 0, .int .i64 0, .int .i64 0, .int .i64 0, .int .i64 0, .int .i64 0, .int .i64 0]), ownB b5 (cellsB 33 [.int .i64 wd, .int .i64 ws, .int .i64 wl, .int .i64 wm])]) (fun ⟨k, wr, la⟩ => [sl (fun b => b < w.heap.size) 3 encDl A ds]) (fun ⟨k, wr, la⟩ => ds.length - k) (0, _, 0) (⟨Nat.zero_le _, by simp; omega, by omega⟩) ⟨rfl, rfl, rfl, rfl, rfl, rfl, rfl, rfl, rfl, rfl, trivial⟩ ?_
  rintro ⟨k, wr, la⟩ ⟨hk, hwr, hla⟩
  dsimp only [List.cons_append, List.nil_append]
  refine cj_seq ?_
  refine cj_regionG (gj_step (y_lss rfl rfl) rfl rfl rfl (gj_nil ?_))
  refine ej_th (cj_seq ?_)
  refine cj_cond rfl (fun h23 => ?_) (fun h23 => ?_)
  · have h23b := h23
    try simp only [sxb] at h23
    obtain ⟨x, hx⟩ : ∃ x, ds[k]? = some x := ⟨_, List.getElem?_eq_getElem (by omega)⟩
    obtain ⟨hx1, hx2, hx3⟩ := hds x (List.mem_of_getElem? hx)
    refine cj_skip (ej_th (cj_seq (cj_block (cj_seq (cj_region ?_)))))
    refine oj_step (y_ixR (reads_sl) Tryz.underlying50 Tryz.sizeOf49 rfl rfl (⟨by omega, by omega⟩)) rfl rfl rfl ?_
    refine oj_step (y_ldW (reads_sl) Tryz.isAgg49 Tryz.sizeOf49 rfl (hx) (fun _ => rfl)) rfl rfl rfl ?_
    refine oj_alloc Tryz.zeroValue49 rfl rfl (fun b11 => ?_)
    refine oj_store rfl rfl rfl rfl Tryz.sizeOf49 rfl ?_
    refine oj_nil ?_
    refine ej_th (cj_seq ?_)
    refine cj_regionG ?_
    refine gj_step (y_move rfl) rfl rfl rfl (gj_step (y_move rfl) rfl rfl rfl (?_))
    refine gj_g 5 27 32 rfl rfl rfl rfl (fun hg27 => gj_yes rfl rfl rfl (y_fa0 fa49_0 rfl) rfl rfl (gj_yes rfl rfl rfl (y_load1 Tryz.isAgg3 rfl rfl) rfl rfl (gj_yes rfl rfl rfl (y_move rfl) rfl rfl (gj_yes rfl rfl rfl (y_call Tryz.call48 rfl (fun w hp => k_within _ _ _ w)) rfl rfl (gj_yes rfl rfl rfl (y_not rfl) rfl rfl (gj_nil rfl)))))) ?_
    refine gj_step (y_or rfl rfl rfl) rfl rfl rfl (gj_step (y_move rfl) rfl rfl rfl (?_))
    refine gj_g 4 34 38 rfl rfl rfl rfl (fun hg34 => gj_yes rfl rfl rfl (y_fa fa49_1 rfl) rfl rfl (gj_yes rfl rfl rfl (y_load1 Tryz.isAgg3 rfl rfl) rfl rfl (gj_yes rfl rfl rfl (y_call Tryz.call53 rfl (fun w hp => k_person _ w)) rfl rfl (gj_yes rfl rfl rfl (y_not rfl) rfl rfl (gj_nil rfl))))) ?_
    refine gj_step (y_or rfl rfl rfl) rfl rfl rfl (gj_step (y_move rfl) rfl rfl rfl (?_))
    refine gj_g 4 40 44 rfl rfl rfl rfl (fun hg40 => gj_yes rfl rfl rfl (y_fa fa49_2 rfl) rfl rfl (gj_yes rfl rfl rfl (y_load1 Tryz.isAgg3 rfl rfl) rfl rfl (gj_yes rfl rfl rfl (y_call Tryz.call48 rfl (fun w hp => k_within _ _ _ w)) rfl rfl (gj_yes rfl rfl rfl (y_not rfl) rfl rfl (gj_nil rfl))))) ?_
    refine gj_step (y_or rfl rfl rfl) rfl rfl rfl (gj_step (y_assign rfl) rfl rfl rfl (?_))
    refine gj_nil ?_
    refine ej_th ?_
    refine cj_regionG (gj_step (y_fa0 fa49_0 rfl) rfl rfl rfl (gj_step (y_load1 Tryz.isAgg3 rfl rfl) rfl rfl rfl (gj_step (y_assign rfl) rfl rfl rfl (gj_nil ?_))))
    refine ej_blk (ej_th ?_)
    refine cj_regionG (gj_step (y_add rfl rfl (by omega)) rfl rfl rfl (gj_step (y_move rfl) rfl rfl rfl (gj_nil ?_)))
    refine ej_takes [ownB b6 (cellsB 97 [.int .i64 0, .int .i64 0, .int .i64 0, .int .i64 0, .slice none 0 0, .int .i64 0, .int .i64 0, .int .i64 0, .int .i64 0, .int .i64 0, .int .i64 0, .int .i64 0, .int .i64 0, .int .i64 0, .int .i64 0, .int .i64 0, .int .i64 0, .int .i64 0, .int .i64 0, .int .i64 0, .int .i64 0, .int .i64 0, .int .i64 0, .int .i64 0, .int .i64 0, .int .i64 0, .int .i64 0, .int .i64 0, .int .i64 0]), ownB b5 (cellsB 33 [.int .i64 wd, .int .i64 ws, .int .i64 wl, .int .i64 wm])] ?_
    exact ej_nx (k + 1, _, x.day) (by first | omega | (simp only; omega)) ⟨by first | omega | (simp only; omega), by rw [hwr, btw_mk (show la ≤ x.day ∧ x.day ≤ 36500 by omega), btw_mk (show 0 ≤ x.who ∧ x.who ≤ 23 by omega), btw_mk hx3]; rfl, by first | omega | (simp only; omega)⟩ ⟨rfl, rfl, rfl, rfl, rfl, rfl, rfl, rfl, rfl, rfl, trivial⟩
  · have h23b := h23
    try simp only [sxb] at h23
    refine cj_exit (ej_then_exit (ej_then_exit (ej_blk_hit (ej_th (cj_seq (cj_seq ?_))))))
    subst hwr
    refine cj_regionG ?_
    refine gj_step (y_move rfl) rfl rfl rfl (gj_step (y_move rfl) rfl rfl rfl (?_))
    refine gj_g 4 50 54 rfl rfl rfl rfl (fun hg50 => gj_yes rfl rfl rfl (y_fa0 fa33_0 rfl) rfl rfl (gj_yes rfl rfl rfl (y_load1 Tryz.isAgg3 rfl rfl) rfl rfl (gj_yes rfl rfl rfl (y_call Tryz.call48 rfl (fun w hp => k_within _ _ _ w)) rfl rfl (gj_yes rfl rfl rfl (y_not rfl) rfl rfl (gj_nil rfl))))) ?_
    refine gj_step (y_or rfl rfl rfl) rfl rfl rfl (gj_step (y_move rfl) rfl rfl rfl (?_))
    refine gj_g 4 56 60 rfl rfl rfl rfl (fun hg56 => gj_yes rfl rfl rfl (y_fa fa33_1 rfl) rfl rfl (gj_yes rfl rfl rfl (y_load1 Tryz.isAgg3 rfl rfl) rfl rfl (gj_yes rfl rfl rfl (y_call Tryz.call48 rfl (fun w hp => k_within _ _ _ w)) rfl rfl (gj_yes rfl rfl rfl (y_not rfl) rfl rfl (gj_nil rfl))))) ?_
    refine gj_step (y_or rfl rfl rfl) rfl rfl rfl (gj_step (y_move rfl) rfl rfl rfl (?_))
    refine gj_g 6 62 68 rfl rfl rfl rfl (fun hg62 => gj_yes rfl rfl rfl (y_fa fa33_2 rfl) rfl rfl (gj_yes rfl rfl rfl (y_load1 Tryz.isAgg3 rfl rfl) rfl rfl (gj_yes rfl rfl rfl (y_fa fa33_1 rfl) rfl rfl (gj_yes rfl rfl rfl (y_load1 Tryz.isAgg3 rfl rfl) rfl rfl (gj_yes rfl rfl rfl (y_call Tryz.call48 rfl (fun w hp => k_within _ _ _ w)) rfl rfl (gj_yes rfl rfl rfl (y_not rfl) rfl rfl (gj_nil rfl))))))) ?_
    refine gj_step (y_or rfl rfl rfl) rfl rfl rfl (gj_step (y_move rfl) rfl rfl rfl (?_))
    refine gj_g 4 70 74 rfl rfl rfl rfl (fun hg70 => gj_yes rfl rfl rfl (y_fa fa33_3 rfl) rfl rfl (gj_yes rfl rfl rfl (y_load1 Tryz.isAgg3 rfl rfl) rfl rfl (gj_yes rfl rfl rfl (y_call Tryz.call48 rfl (fun w hp => k_within _ _ _ w)) rfl rfl (gj_yes rfl rfl rfl (y_not rfl) rfl rfl (gj_nil rfl))))) ?_
    refine gj_step (y_or rfl rfl rfl) rfl rfl rfl (?_)
    refine gj_nil ?_
    refine ej_th ?_
    refine cj_cond rfl (fun h75 => ?_) (fun h75 => ?_)
    · exfalso
      have h9 : (!(watB wd ws wl wm)) = true := by
        rw [← h75]; unfold watB
        cases btw 1 wd 366 <;> cases btw 1 ws 1073741824 <;> cases btw 1 wl ws <;> cases btw 1 wm 64 <;> rfl
      rw [hok] at h9
      cases h9
    · have h75b := h75
      try simp only [sxb] at h75
      refine cj_skip (ej_th (cj_seq ?_))
      refine cj_plan 7 (by kernel_rfl) (by kernel_rfl) ?_
      refine pl_y 0 rfl (y_loadN Tryz.isAgg33 Tryz.sizeOf33 rfl) rfl rfl rfl rfl (by kernel_rfl) ?_
      refine pl_y 1 rfl (y_move rfl) rfl rfl rfl rfl (by kernel_rfl) ?_
      refine pl_y 2 rfl (y_move rfl) rfl rfl rfl rfl (by kernel_rfl) ?_
      refine pl_y 3 rfl (y_call Tryz.call54 rfl (fun w hp => k_heads w)) rfl rfl rfl rfl (by kernel_rfl) ?_
      refine pl_y 4 rfl (y_build (cs := [.int .i64 wd, .int .i64 ws, .int .i64 wl, .int .i64 wm, .slice A ds.length c, .int .i64 0, .int .i64 1, .int .i64 2, .int .i64 3, .int .i64 4, .int .i64 5, .int .i64 6, .int .i64 7, .int .i64 8, .int .i64 9, .int .i64 10, .int .i64 11, .int .i64 12, .int .i64 13, .int .i64 14, .int .i64 15, .int .i64 16, .int .i64 17, .int .i64 18, .int .i64 19, .int .i64 20, .int .i64 21, .int .i64 22, .int .i64 23]) st97 rfl (by kernel_rfl)) rfl rfl rfl rfl (by kernel_rfl) ?_
      refine pl_w1 5 (by kernel_rfl) rfl rfl (pl_fire rfl rfl rfl (by kernel_rfl) ?_)
      refine oj_store rfl rfl rfl rfl Tryz.sizeOf97 rfl ?_
      refine oj_nil ?_
      refine ej_pl (lt_w (by kernel_rfl) (lt_w (by kernel_rfl) (lt_w (by kernel_rfl) (lt_w (by kernel_rfl) (lt_w (by kernel_rfl) (lt_nil)))))) ?_
      refine pl_y 6 rfl (y_assign rfl) rfl rfl rfl rfl (by kernel_rfl) ?_
      refine pl_end (by kernel_rfl) ?_
      refine ej_th (cj_ret ?_)
      refine ej_retC2 rfl Tryz.results21 rfl (y_loadN Tryz.isAgg97 Tryz.sizeOf97 rfl) rfl (fun w' hp => ⟨?_, hp.below⟩)
      rfl

theorem k_watchOf_no (ds : List DlV) (A : Option Addr) (c : Nat) (wd ws wl wm : Int) (day : Int) (pe : Nat) (w : World) (hl : Rd w 3 encDl A ds) (hds : AllAt ds day (pe : Nat)) (hpe : pe < 24) (hday : 0 ≤ day ∧ day ≤ 36500) (hl2 : ds.length ≤ 2) (hok : watB wd ws wl wm = false) : Calls Tryz.prog 21 #[.slice A ds.length c, .slice none 0 0, .agg #[.int .i64 wd, .int .i64 ws, .int .i64 wl, .int .i64 wm]] w (fun e w' => e = .returned (.tuple #[.agg #[.int .i64 0, .int .i64 0, .int .i64 0, .int .i64 0, .slice none 0 0, .int .i64 0, .int .i64 0, .int .i64 0, .int .i64 0, .int .i64 0, .int .i64 0, .int .i64 0, .int .i64 0, .int .i64 0, .int .i64 0, .int .i64 0, .int .i64 0, .int .i64 0, .int .i64 0, .int .i64 0, .int .i64 0, .int .i64 0, .int .i64 0, .int .i64 0, .int .i64 0, .int .i64 0, .int .i64 0, .int .i64 0, .int .i64 0], .int .i64 83]) ∧ Grow w w') := by
  refine enter_pure (args := [.slice A ds.length c, .slice none 0 0, .agg #[.int .i64 wd, .int .i64 ws, .int .i64 wl, .int .i64 wm]]) [sl (fun b => b < w.heap.size) 3 encDl A ds] Tryz.func21 rfl (by rw [Tryz.ntmps21]; simp) (fun g hg => by simp at hg; subst hg; exact ⟨hl, fun _ h => h⟩) ?_
  refine cj_seq (cj_region ?_)
  refine oj_box rfl rfl rfl (fun b5 => ?_)
  refine oj_alloc Tryz.zeroValue97 rfl rfl (fun b6 => ?_)
  refine oj_step (y_assign rfl) rfl rfl rfl ?_
  refine oj_nil ?_
  refine ej_th (cj_seq ?_)
  refine cj_regionG ?_
  refine gj_step (y_move rfl) rfl rfl rfl (?_)
  refine gj_step (y_call Tryz.call52 rfl (fun w hp => k_linked w)) rfl rfl rfl ?_
  refine gj_step (y_not rfl) rfl rfl rfl (gj_step (y_move rfl) rfl rfl rfl (?_))
  refine gj_g 3 15 18 rfl rfl rfl rfl (fun hg15 => gj_yes rfl rfl rfl (y_move rfl) rfl rfl (gj_yes rfl rfl rfl (y_lenA Tryz.underlying50 rfl) rfl rfl (gj_yes rfl rfl rfl (y_gtr rfl rfl) rfl rfl (gj_nil rfl)))) ?_
  refine gj_step (y_or rfl rfl rfl) rfl rfl rfl (gj_step (y_assign rfl) rfl rfl rfl (?_))
  refine gj_nil ?_
  refine ej_th (cj_seq ?_)
  refine cj_regionG (gj_step (y_assign rfl) rfl rfl rfl (gj_nil ?_))
  refine ej_th (cj_seq (cj_seq ?_))
  refine cj_regionG (gj_step (y_move rfl) rfl rfl rfl (gj_step (y_lenA Tryz.underlying50 rfl) rfl rfl rfl (gj_step (y_move rfl) rfl rfl rfl (gj_nil ?_))))
  refine ej_th (cj_block ?_)
  refine cj_lpi (X := Nat × Bool × Int) [(0, _), (1, _), (5, _), (6, _), (7, _), (20, _), (21, _)] (fun ⟨k, wr, la⟩ => k ≤ ds.length ∧ wr = false ∧ (0 ≤ la ∧ la ≤ day)) (fun ⟨k, wr, la⟩ => [(22, .int .i64 (k : Nat)), (8, .bool wr), (9, .int .i64 la)]) (fun ⟨k, wr, la⟩ => [ownB b6 (cellsB 97 [.int .i64 0, .int .i64 0, .int .i64 0, .int .i64 0, .slice none 0 0, .int .i64 0, .int .i64 0, .int .i64 0, .int .i64 0, .int .i64 0, .int .i64 0, .int .i64 0, .int .i64 0, .int .i64 0, .int .i64 0, .int .i64 0, .int .i64 0, .int .i64 0, .int .i64 0, .int .i64 0, .int .i64 0, .int .i64 0, .int .i64 0, .int .i64 0, .int .i64 0, .int .i64 0, .int .i64 0, .int .i64 0, .int .i64 0]), ownB b5 (cellsB 33 [.int .i64 wd, .int .i64 ws, .int .i64 wl, .int .i64 wm])]) (fun ⟨k, wr, la⟩ => [sl (fun b => b < w.heap.size) 3 encDl A ds]) (fun ⟨k, wr, la⟩ => ds.length - k) (0, _, 0) (⟨Nat.zero_le _, by simp; omega, by omega⟩) ⟨rfl, rfl, rfl, rfl, rfl, rfl, rfl, rfl, rfl, rfl, trivial⟩ ?_
  rintro ⟨k, wr, la⟩ ⟨hk, hwr, hla⟩
  dsimp only [List.cons_append, List.nil_append]
  refine cj_seq ?_
  refine cj_regionG (gj_step (y_lss rfl rfl) rfl rfl rfl (gj_nil ?_))
  refine ej_th (cj_seq ?_)
  refine cj_cond rfl (fun h23 => ?_) (fun h23 => ?_)
  · have h23b := h23
    try simp only [sxb] at h23
    obtain ⟨x, hx⟩ : ∃ x, ds[k]? = some x := ⟨_, List.getElem?_eq_getElem (by omega)⟩
    obtain ⟨hx1, hx2, hx3⟩ := hds x (List.mem_of_getElem? hx)
    refine cj_skip (ej_th (cj_seq (cj_block (cj_seq (cj_region ?_)))))
    refine oj_step (y_ixR (reads_sl) Tryz.underlying50 Tryz.sizeOf49 rfl rfl (⟨by omega, by omega⟩)) rfl rfl rfl ?_
    refine oj_step (y_ldW (reads_sl) Tryz.isAgg49 Tryz.sizeOf49 rfl (hx) (fun _ => rfl)) rfl rfl rfl ?_
    refine oj_alloc Tryz.zeroValue49 rfl rfl (fun b11 => ?_)
    refine oj_store rfl rfl rfl rfl Tryz.sizeOf49 rfl ?_
    refine oj_nil ?_
    refine ej_th (cj_seq ?_)
    refine cj_regionG ?_
    refine gj_step (y_move rfl) rfl rfl rfl (gj_step (y_move rfl) rfl rfl rfl (?_))
    refine gj_g 5 27 32 rfl rfl rfl rfl (fun hg27 => gj_yes rfl rfl rfl (y_fa0 fa49_0 rfl) rfl rfl (gj_yes rfl rfl rfl (y_load1 Tryz.isAgg3 rfl rfl) rfl rfl (gj_yes rfl rfl rfl (y_move rfl) rfl rfl (gj_yes rfl rfl rfl (y_call Tryz.call48 rfl (fun w hp => k_within _ _ _ w)) rfl rfl (gj_yes rfl rfl rfl (y_not rfl) rfl rfl (gj_nil rfl)))))) ?_
    refine gj_step (y_or rfl rfl rfl) rfl rfl rfl (gj_step (y_move rfl) rfl rfl rfl (?_))
    refine gj_g 4 34 38 rfl rfl rfl rfl (fun hg34 => gj_yes rfl rfl rfl (y_fa fa49_1 rfl) rfl rfl (gj_yes rfl rfl rfl (y_load1 Tryz.isAgg3 rfl rfl) rfl rfl (gj_yes rfl rfl rfl (y_call Tryz.call53 rfl (fun w hp => k_person _ w)) rfl rfl (gj_yes rfl rfl rfl (y_not rfl) rfl rfl (gj_nil rfl))))) ?_
    refine gj_step (y_or rfl rfl rfl) rfl rfl rfl (gj_step (y_move rfl) rfl rfl rfl (?_))
    refine gj_g 4 40 44 rfl rfl rfl rfl (fun hg40 => gj_yes rfl rfl rfl (y_fa fa49_2 rfl) rfl rfl (gj_yes rfl rfl rfl (y_load1 Tryz.isAgg3 rfl rfl) rfl rfl (gj_yes rfl rfl rfl (y_call Tryz.call48 rfl (fun w hp => k_within _ _ _ w)) rfl rfl (gj_yes rfl rfl rfl (y_not rfl) rfl rfl (gj_nil rfl))))) ?_
    refine gj_step (y_or rfl rfl rfl) rfl rfl rfl (gj_step (y_assign rfl) rfl rfl rfl (?_))
    refine gj_nil ?_
    refine ej_th ?_
    refine cj_regionG (gj_step (y_fa0 fa49_0 rfl) rfl rfl rfl (gj_step (y_load1 Tryz.isAgg3 rfl rfl) rfl rfl rfl (gj_step (y_assign rfl) rfl rfl rfl (gj_nil ?_))))
    refine ej_blk (ej_th ?_)
    refine cj_regionG (gj_step (y_add rfl rfl (by omega)) rfl rfl rfl (gj_step (y_move rfl) rfl rfl rfl (gj_nil ?_)))
    refine ej_takes [ownB b6 (cellsB 97 [.int .i64 0, .int .i64 0, .int .i64 0, .int .i64 0, .slice none 0 0, .int .i64 0, .int .i64 0, .int .i64 0, .int .i64 0, .int .i64 0, .int .i64 0, .int .i64 0, .int .i64 0, .int .i64 0, .int .i64 0, .int .i64 0, .int .i64 0, .int .i64 0, .int .i64 0, .int .i64 0, .int .i64 0, .int .i64 0, .int .i64 0, .int .i64 0, .int .i64 0, .int .i64 0, .int .i64 0, .int .i64 0, .int .i64 0]), ownB b5 (cellsB 33 [.int .i64 wd, .int .i64 ws, .int .i64 wl, .int .i64 wm])] ?_
    exact ej_nx (k + 1, _, x.day) (by first | omega | (simp only; omega)) ⟨by first | omega | (simp only; omega), by rw [hwr, btw_mk (show la ≤ x.day ∧ x.day ≤ 36500 by omega), btw_mk (show 0 ≤ x.who ∧ x.who ≤ 23 by omega), btw_mk hx3]; rfl, by first | omega | (simp only; omega)⟩ ⟨rfl, rfl, rfl, rfl, rfl, rfl, rfl, rfl, rfl, rfl, trivial⟩
  · have h23b := h23
    try simp only [sxb] at h23
    refine cj_exit (ej_then_exit (ej_then_exit (ej_blk_hit (ej_th (cj_seq (cj_seq ?_))))))
    subst hwr
    refine cj_regionG ?_
    refine gj_step (y_move rfl) rfl rfl rfl (gj_step (y_move rfl) rfl rfl rfl (?_))
    refine gj_g 4 50 54 rfl rfl rfl rfl (fun hg50 => gj_yes rfl rfl rfl (y_fa0 fa33_0 rfl) rfl rfl (gj_yes rfl rfl rfl (y_load1 Tryz.isAgg3 rfl rfl) rfl rfl (gj_yes rfl rfl rfl (y_call Tryz.call48 rfl (fun w hp => k_within _ _ _ w)) rfl rfl (gj_yes rfl rfl rfl (y_not rfl) rfl rfl (gj_nil rfl))))) ?_
    refine gj_step (y_or rfl rfl rfl) rfl rfl rfl (gj_step (y_move rfl) rfl rfl rfl (?_))
    refine gj_g 4 56 60 rfl rfl rfl rfl (fun hg56 => gj_yes rfl rfl rfl (y_fa fa33_1 rfl) rfl rfl (gj_yes rfl rfl rfl (y_load1 Tryz.isAgg3 rfl rfl) rfl rfl (gj_yes rfl rfl rfl (y_call Tryz.call48 rfl (fun w hp => k_within _ _ _ w)) rfl rfl (gj_yes rfl rfl rfl (y_not rfl) rfl rfl (gj_nil rfl))))) ?_
    refine gj_step (y_or rfl rfl rfl) rfl rfl rfl (gj_step (y_move rfl) rfl rfl rfl (?_))
    refine gj_g 6 62 68 rfl rfl rfl rfl (fun hg62 => gj_yes rfl rfl rfl (y_fa fa33_2 rfl) rfl rfl (gj_yes rfl rfl rfl (y_load1 Tryz.isAgg3 rfl rfl) rfl rfl (gj_yes rfl rfl rfl (y_fa fa33_1 rfl) rfl rfl (gj_yes rfl rfl rfl (y_load1 Tryz.isAgg3 rfl rfl) rfl rfl (gj_yes rfl rfl rfl (y_call Tryz.call48 rfl (fun w hp => k_within _ _ _ w)) rfl rfl (gj_yes rfl rfl rfl (y_not rfl) rfl rfl (gj_nil rfl))))))) ?_
    refine gj_step (y_or rfl rfl rfl) rfl rfl rfl (gj_step (y_move rfl) rfl rfl rfl (?_))
    refine gj_g 4 70 74 rfl rfl rfl rfl (fun hg70 => gj_yes rfl rfl rfl (y_fa fa33_3 rfl) rfl rfl (gj_yes rfl rfl rfl (y_load1 Tryz.isAgg3 rfl rfl) rfl rfl (gj_yes rfl rfl rfl (y_call Tryz.call48 rfl (fun w hp => k_within _ _ _ w)) rfl rfl (gj_yes rfl rfl rfl (y_not rfl) rfl rfl (gj_nil rfl))))) ?_
    refine gj_step (y_or rfl rfl rfl) rfl rfl rfl (?_)
    refine gj_nil ?_
    refine ej_th ?_
    refine cj_cond rfl (fun h75 => ?_) (fun h75 => ?_)
    · have h75b := h75
      try simp only [sxb] at h75
      skip
      refine cj_seq (cj_region ?_)
      refine oj_step (y_build st97 rfl rfl) rfl rfl rfl ?_
      refine oj_store rfl rfl rfl rfl Tryz.sizeOf97 rfl ?_
      refine oj_step (y_assign rfl) rfl rfl rfl ?_
      refine oj_nil ?_
      refine ej_th (cj_ret (ej_then_ret ?_))
      refine ej_retC2 rfl Tryz.results21 rfl (y_loadN Tryz.isAgg97 Tryz.sizeOf97 rfl) rfl (fun w' hp => ⟨?_, hp.below⟩)
      rfl
    · exfalso
      have h9 : (!(watB wd ws wl wm)) = false := by
        rw [← h75]; unfold watB
        cases btw 1 wd 366 <;> cases btw 1 ws 1073741824 <;> cases btw 1 wl ws <;> cases btw 1 wm 64 <;> rfl
      rw [hok] at h9
      cases h9

end Go.Proofs.YtppfniekcgnmjaaGreatDoor.Ti
namespace Go.Proofs.YtppfniekcgnmjaaGreatDoor.Ti
open Go.Sx Go.RowKit
set_option maxRecDepth 20000
theorem fa97_0 : FieldIs Tryz.prog 97 0 0 4 true := ⟨⟨_, _, Tryz.underlying97, rfl, rfl, Tryz.sizeOf33, Tryz.isAgg33, by decide⟩⟩
theorem fa97_1 : FieldIs Tryz.prog 97 1 4 1 false := ⟨⟨_, _, Tryz.underlying97, rfl, rfl, Tryz.sizeOf50, Tryz.isAgg50, by decide⟩⟩
theorem fa97_2 : FieldIs Tryz.prog 97 2 5 24 true := ⟨⟨_, _, Tryz.underlying97, rfl, rfl, Tryz.sizeOf95, Tryz.isAgg95, by decide⟩⟩
end Go.Proofs.YtppfniekcgnmjaaGreatDoor.Ti
namespace Go.Proofs.YtppfniekcgnmjaaGreatDoor.Ti
open Go.Sx Go.RowKit Um
set_option maxRecDepth 20000
set_option maxHeartbeats 1000000 in
theorem k_window1 (ds : List DlV) (A : Option Addr) (c : Nat) (wd ws wl wm : Int) (day : Int) (pe : Nat) (fpd : Nat → Prop) (bw bk k : Nat) (hds : AllAt ds day (pe : Nat)) (hpe : pe < 24) (hwd : 1 ≤ wd ∧ wd ≤ 366) (hday : 0 ≤ day ∧ day ≤ 36500) (hcap : ds.length ≤ c) (hk : k < ds.length) (hlm : ds.length ≤ 64) : IterX Tryz.prog 91 #[.pointer (some ⟨bw, 0, none⟩), .pointer (some ⟨bk, 0, none⟩)] (fun p : Nat × DlV => [.int .i64 (p.1 : Nat), .agg #[.int .i64 p.2.day, .int .i64 p.2.who, .int .i64 p.2.sum]]) (zipI 0 (ds.take (k + 1))) [ownB bw (cellsB 97 [.int .i64 wd, .int .i64 ws, .int .i64 wl, .int .i64 wm, .slice A ds.length c, .int .i64 0, .int .i64 1, .int .i64 2, .int .i64 3, .int .i64 4, .int .i64 5, .int .i64 6, .int .i64 7, .int .i64 8, .int .i64 9, .int .i64 10, .int .i64 11, .int .i64 12, .int .i64 13, .int .i64 14, .int .i64 15, .int .i64 16, .int .i64 17, .int .i64 18, .int .i64 19, .int .i64 20, .int .i64 21, .int .i64 22, .int .i64 23]), ownB bk (cellsB 3 [.int .i64 (k : Nat)]), sl fpd 3 encDl A ds] := by
  intro l J Jx w hgr hadd hdrop hfacts hgrx hdrx hfx hround hJ0
  obtain ⟨dk, hdk⟩ : ∃ dk, ds[k]? = some dk := ⟨_, List.getElem?_eq_getElem hk⟩
  obtain ⟨hk1, hk2, hk3⟩ := hds dk (List.mem_of_getElem? hdk)
  have htl : (ds.take (k + 1)).length = k + 1 := by rw [List.length_take]; omega
  have hxl : (zipI 0 (ds.take (k + 1))).length = k + 1 := by rw [zipI_len, htl]
  refine enter_pure (args := [.func (.yield l) #[] #[], .pointer (some ⟨bw, 0, none⟩), .pointer (some ⟨bk, 0, none⟩)]) [ownB bw (cellsB 97 [.int .i64 wd, .int .i64 ws, .int .i64 wl, .int .i64 wm, .slice A ds.length c, .int .i64 0, .int .i64 1, .int .i64 2, .int .i64 3, .int .i64 4, .int .i64 5, .int .i64 6, .int .i64 7, .int .i64 8, .int .i64 9, .int .i64 10, .int .i64 11, .int .i64 12, .int .i64 13, .int .i64 14, .int .i64 15, .int .i64 16, .int .i64 17, .int .i64 18, .int .i64 19, .int .i64 20, .int .i64 21, .int .i64 22, .int .i64 23]), ownB bk (cellsB 3 [.int .i64 (k : Nat)]), sl fpd 3 encDl A ds] Tryz.func91 rfl (by rw [Tryz.ntmps91]; simp) (fun g hg => hfacts [] 0 w hJ0 g (List.mem_append_left _ hg)) ?_
  refine cj_seq ?_
  refine cj_regionG (gj_step (y_fa fa97_1 rfl) rfl rfl rfl (gj_step (y_loadS1 Tryz.isAgg50 rfl rfl) rfl rfl rfl (gj_step (y_loadS1 Tryz.isAgg3 rfl rfl) rfl rfl rfl (gj_step (y_add rfl rfl (by omega)) rfl rfl rfl (gj_step (y_sliceTo (xs := ds) (k + 1) Tryz.underlying50 Tryz.sizeOf49 rfl rfl (by omega) hcap) rfl rfl rfl (gj_step (y_lenA Tryz.underlying50 rfl) rfl rfl rfl (gj_step (y_move rfl) rfl rfl rfl (gj_nil ?_))))))))
  refine ej_th (cj_block ?_)
  refine cj_loopB (X := Nat) (fun i => i ≤ k + 1) (fun i => [(0, .func (.yield l) #[] #[]), (1, .pointer (some ⟨bw, 0, none⟩)), (2, .pointer (some ⟨bk, 0, none⟩)), (10, .slice A (ds.take (k + 1)).length c), (11, .int .i64 ((ds.take (k + 1)).length : Nat)), (12, .int .i64 (i : Nat))]) (fun i => fun W => J [] i W) [ownB bw (cellsB 97 [.int .i64 wd, .int .i64 ws, .int .i64 wl, .int .i64 wm, .slice A ds.length c, .int .i64 0, .int .i64 1, .int .i64 2, .int .i64 3, .int .i64 4, .int .i64 5, .int .i64 6, .int .i64 7, .int .i64 8, .int .i64 9, .int .i64 10, .int .i64 11, .int .i64 12, .int .i64 13, .int .i64 14, .int .i64 15, .int .i64 16, .int .i64 17, .int .i64 18, .int .i64 19, .int .i64 20, .int .i64 21, .int .i64 22, .int .i64 23]), ownB bk (cellsB 3 [.int .i64 (k : Nat)]), sl fpd 3 encDl A ds] (fun i => k + 1 - i) 0 (Nat.zero_le _) ⟨rfl, rfl, rfl, rfl, rfl, rfl, trivial⟩ (fun w1 hp => hgr _ _ _ _ hJ0 hp.below) (fun x W h g hg => hfacts [] _ W h g (List.mem_append_left _ hg)) ?_
  rintro i W hi hJW
  refine cj_seq ?_
  refine cj_regionG (gj_step (y_lss rfl rfl) rfl rfl rfl (gj_nil ?_))
  refine ej_th (cj_seq ?_)
  refine cj_cond rfl (fun h13 => ?_) (fun h13 => ?_)
  · have h13b := h13
    try simp only [sxb] at h13
    obtain ⟨x, hx⟩ : ∃ x, ds[i]? = some x := ⟨_, List.getElem?_eq_getElem (by omega)⟩
    obtain ⟨hx1, hx2, hx3⟩ := hds x (List.mem_of_getElem? hx)
    have hget : (zipI 0 (ds.take (k + 1)))[i]? = some (i, x) := by rw [zipI_get, List.getElem?_take, if_pos (by omega), hx]; simp
    refine cj_skip (ej_th (cj_seq (cj_block (cj_seq (cj_region ?_)))))
    refine oj_step (y_move rfl) rfl rfl rfl ?_
    refine oj_step (y_ixRL (m := (ds.take (k + 1)).length) (xs := ds) (by omega) reads_sl Tryz.underlying50 Tryz.sizeOf49 rfl rfl (⟨by omega, by omega⟩)) rfl rfl rfl ?_
    refine oj_step (y_ldW (reads_sl) Tryz.isAgg49 Tryz.sizeOf49 rfl (hx) (fun _ => rfl)) rfl rfl rfl ?_
    refine oj_alloc Tryz.zeroValue49 rfl rfl (fun b5 => ?_)
    refine oj_step (y_assign rfl) rfl rfl rfl ?_
    refine oj_store rfl rfl rfl rfl Tryz.sizeOf49 rfl ?_
    refine oj_nil ?_
    refine ej_th (cj_seq ?_)
    refine cj_pure (W.heap.size ≤ b5) (fun w hp => ((hp.newB (b := b5)).2 b5 rfl).1) (fun hb5 => ?_)
    refine cj_frzS (O' := []) (ownB b5 (cellsB 49 [.int .i64 x.day, .int .i64 x.who, .int .i64 x.sum])) (ownB b5 (cellsB 49 [.int .i64 x.day, .int .i64 x.who, .int .i64 x.sum])) (fun w1 hp => (hp.own _ (List.mem_cons_self ..)).1) (fun b hb => .inl hb) ?_
    refine cj_plan 37 (by kernel_rfl) (by kernel_rfl) ?_
    refine pl_y 0 rfl (y_fa fa49_1 rfl) rfl rfl rfl rfl (by kernel_rfl) ?_
    refine pl_y 1 rfl (y_loadS1 Tryz.isAgg3 rfl rfl) rfl rfl rfl rfl (by kernel_rfl) ?_
    refine pl_y 2 rfl (y_fa fa97_2 rfl) rfl rfl rfl rfl (by kernel_rfl) ?_
    refine pl_y 3 rfl (y_ixArr Tryz.underlying95 Tryz.sizeOf3 rfl rfl (⟨by omega, by omega⟩)) rfl rfl rfl rfl (by kernel_rfl) ?_
    refine pl_y 4 rfl (y_loadS1 Tryz.isAgg3 rfl (by rw [hx2]; exact hd_at _ _ _ _ _ hpe)) rfl rfl rfl rfl (by kernel_rfl) ?_
    refine pl_y 5 rfl (y_fa fa97_1 rfl) rfl rfl rfl rfl (by kernel_rfl) ?_
    refine pl_y 6 rfl (y_loadS1 Tryz.isAgg50 rfl rfl) rfl rfl rfl rfl (by kernel_rfl) ?_
    refine pl_y 7 rfl (y_loadS1 Tryz.isAgg3 rfl rfl) rfl rfl rfl rfl (by kernel_rfl) ?_
    refine pl_y 8 rfl (y_ixR (reads_sl) Tryz.underlying50 Tryz.sizeOf49 rfl rfl (⟨by omega, by omega⟩)) rfl rfl rfl rfl (by kernel_rfl) ?_
    refine pl_y 9 rfl (y_faE fa49_1 rfl) rfl rfl rfl rfl (by kernel_rfl) ?_
    refine pl_y 10 rfl (y_ld1 (reads_sl) Tryz.isAgg3 rfl (hdk) rfl) rfl rfl rfl rfl (by kernel_rfl) ?_
    refine pl_y 11 rfl (y_fa fa97_2 rfl) rfl rfl rfl rfl (by kernel_rfl) ?_
    refine pl_y 12 rfl (y_ixArr Tryz.underlying95 Tryz.sizeOf3 rfl rfl (⟨by omega, by omega⟩)) rfl rfl rfl rfl (by kernel_rfl) ?_
    refine pl_y 13 rfl (y_loadS1 Tryz.isAgg3 rfl (by rw [hk2]; exact hd_at _ _ _ _ _ hpe)) rfl rfl rfl rfl (by kernel_rfl) ?_
    refine pl_y 14 rfl (y_eqlT rfl rfl rfl) rfl rfl rfl rfl (by kernel_rfl) ?_
    refine pl_y 15 rfl (y_move rfl) rfl rfl rfl rfl (by kernel_rfl) ?_
    refine pl_yY 16 rfl rfl rfl rfl rfl (y_fa0 fa49_0 rfl) rfl rfl rfl (by kernel_rfl) ?_
    refine pl_yY 17 rfl rfl rfl rfl rfl (y_loadS1 Tryz.isAgg3 rfl rfl) rfl rfl rfl (by kernel_rfl) ?_
    refine pl_yY 18 rfl rfl rfl rfl rfl (y_fa fa97_1 rfl) rfl rfl rfl (by kernel_rfl) ?_
    refine pl_yY 19 rfl rfl rfl rfl rfl (y_loadS1 Tryz.isAgg50 rfl rfl) rfl rfl rfl (by kernel_rfl) ?_
    refine pl_yY 20 rfl rfl rfl rfl rfl (y_loadS1 Tryz.isAgg3 rfl rfl) rfl rfl rfl (by kernel_rfl) ?_
    refine pl_yY 21 rfl rfl rfl rfl rfl (y_ixR (reads_sl) Tryz.underlying50 Tryz.sizeOf49 rfl rfl (⟨by omega, by omega⟩)) rfl rfl rfl (by kernel_rfl) ?_
    refine pl_yY 22 rfl rfl rfl rfl rfl (y_faE fa49_0 rfl) rfl rfl rfl (by kernel_rfl) ?_
    refine pl_yY 23 rfl rfl rfl rfl rfl (y_ld1 (reads_sl) Tryz.isAgg3 rfl (hdk) rfl) rfl rfl rfl (by kernel_rfl) ?_
    refine pl_yY 24 rfl rfl rfl rfl rfl (y_fa0 fa97_0 rfl) rfl rfl rfl (by kernel_rfl) ?_
    refine pl_yY 25 rfl rfl rfl rfl rfl (y_fa0 fa33_0 rfl) rfl rfl rfl (by kernel_rfl) ?_
    refine pl_yY 26 rfl rfl rfl rfl rfl (y_loadS1 Tryz.isAgg3 rfl rfl) rfl rfl rfl (by kernel_rfl) ?_
    refine pl_yY 27 rfl rfl rfl rfl rfl (y_sub rfl rfl (by omega)) rfl rfl rfl (by kernel_rfl) ?_
    refine pl_yY 28 rfl rfl rfl rfl rfl (y_gtrT rfl rfl (by omega)) rfl rfl rfl (by kernel_rfl) ?_
    refine pl_y 29 rfl (y_pickT rfl rfl rfl) rfl rfl rfl rfl (by kernel_rfl) ?_
    refine pl_y 30 rfl (y_move rfl) rfl rfl rfl rfl (by kernel_rfl) ?_
    refine pl_yY 31 rfl rfl rfl rfl rfl (y_move rfl) rfl rfl rfl (by kernel_rfl) ?_
    refine pl_yY 32 rfl rfl rfl rfl rfl (y_move rfl) rfl rfl rfl (by kernel_rfl) ?_
    refine pl_yY 33 rfl rfl rfl rfl rfl (y_loadSN Tryz.isAgg49 Tryz.sizeOf49 rfl) rfl rfl rfl (by kernel_rfl) ?_
    refine pl_w1 34 (by kernel_rfl) rfl rfl (pl_fireG rfl rfl rfl rfl rfl rfl (by kernel_rfl) ?_)
    refine oj_yesE rfl rfl rfl rfl ?_
    refine oj_yieldB (T := TB J Jx [ownB b5 (cellsB 49 [.int .i64 x.day, .int .i64 x.who, .int .i64 x.sum])] (i + 1)) [ownB b5 (cellsB 49 [.int .i64 x.day, .int .i64 x.who, .int .i64 x.sum]), ownB bw (cellsB 97 [.int .i64 wd, .int .i64 ws, .int .i64 wl, .int .i64 wm, .slice A ds.length c, .int .i64 0, .int .i64 1, .int .i64 2, .int .i64 3, .int .i64 4, .int .i64 5, .int .i64 6, .int .i64 7, .int .i64 8, .int .i64 9, .int .i64 10, .int .i64 11, .int .i64 12, .int .i64 13, .int .i64 14, .int .i64 15, .int .i64 16, .int .i64 17, .int .i64 18, .int .i64 19, .int .i64 20, .int .i64 21, .int .i64 22, .int .i64 23]), ownB bk (cellsB 3 [.int .i64 (k : Nat)]), sl fpd 3 encDl A ds] rfl rfl rfl (fun w1 hp => hround [ownB b5 (cellsB 49 [.int .i64 x.day, .int .i64 x.who, .int .i64 x.sum])] i (i, x) w1 hget (hadd [ownB b5 (cellsB 49 [.int .i64 x.day, .int .i64 x.who, .int .i64 x.sum])] [] _ _ _ hJW hp.below (fun f hf => by
      rw [List.mem_singleton.1 hf]
      exact ⟨(hp.shared _ (List.mem_cons_self ..)).1, fun b hb => by
        have hb : b = b5 := hb
        subst hb
        exact ⟨hb5, (hp.shared _ (List.mem_cons_self ..)).2.1 b rfl⟩⟩))) rfl (fun b W h g hg => ?_) (fun b51 W51 hT51 => ?_)
    · have hg2 : g ∈ [ownB bw (cellsB 97 [.int .i64 wd, .int .i64 ws, .int .i64 wl, .int .i64 wm, .slice A ds.length c, .int .i64 0, .int .i64 1, .int .i64 2, .int .i64 3, .int .i64 4, .int .i64 5, .int .i64 6, .int .i64 7, .int .i64 8, .int .i64 9, .int .i64 10, .int .i64 11, .int .i64 12, .int .i64 13, .int .i64 14, .int .i64 15, .int .i64 16, .int .i64 17, .int .i64 18, .int .i64 19, .int .i64 20, .int .i64 21, .int .i64 22, .int .i64 23]), ownB bk (cellsB 3 [.int .i64 (k : Nat)]), sl fpd 3 encDl A ds] ++ [ownB b5 (cellsB 49 [.int .i64 x.day, .int .i64 x.who, .int .i64 x.sum])] := by
        rcases List.mem_cons.1 hg with e | e
        · exact List.mem_append_right _ (List.mem_singleton.2 e)
        · exact List.mem_append_left _ e
      cases b with
      | true => exact hfacts [ownB b5 (cellsB 49 [.int .i64 x.day, .int .i64 x.who, .int .i64 x.sum])] _ W h g hg2
      | false => exact hfx [ownB b5 (cellsB 49 [.int .i64 x.day, .int .i64 x.who, .int .i64 x.sum])] _ W h g hg2
    rotate_left
    refine oj_nil ?_
    refine ej_plB (lt_w (by kernel_rfl) (lt_w (by kernel_rfl) (lt_w (by kernel_rfl) (lt_w (by kernel_rfl) (lt_y (y_pickT rfl rfl rfl) rfl (lt_yY rfl rfl rfl rfl (y_gtrT rfl rfl (by omega)) (lt_yY rfl rfl rfl rfl (y_sub rfl rfl (by omega)) (lt_yY rfl rfl rfl rfl (y_loadS1 Tryz.isAgg3 rfl rfl) (lt_yY rfl rfl rfl rfl (y_fa0 fa33_0 rfl) (lt_yY rfl rfl rfl rfl (y_fa0 fa97_0 rfl) (lt_yY rfl rfl rfl rfl (y_ld1 (reads_sl) Tryz.isAgg3 rfl (hdk) rfl) (lt_yY rfl rfl rfl rfl (y_faE fa49_0 rfl) (lt_yY rfl rfl rfl rfl (y_ixR (reads_sl) Tryz.underlying50 Tryz.sizeOf49 rfl rfl (⟨by omega, by omega⟩)) (lt_yY rfl rfl rfl rfl (y_loadS1 Tryz.isAgg3 rfl rfl) (lt_yY rfl rfl rfl rfl (y_loadS1 Tryz.isAgg50 rfl rfl) (lt_yY rfl rfl rfl rfl (y_fa fa97_1 rfl) (lt_yY rfl rfl rfl rfl (y_loadS1 Tryz.isAgg3 rfl rfl) (lt_yY rfl rfl rfl rfl (y_fa0 fa49_0 rfl) (lt_y (y_move rfl) rfl (lt_y (y_eqlT rfl rfl rfl) rfl (lt_y (y_loadS1 Tryz.isAgg3 rfl (by rw [hk2]; exact hd_at _ _ _ _ _ hpe)) rfl (lt_y (y_ixArr Tryz.underlying95 Tryz.sizeOf3 rfl rfl (⟨by omega, by omega⟩)) rfl (lt_y (y_fa fa97_2 rfl) rfl (lt_y (y_ld1 (reads_sl) Tryz.isAgg3 rfl (hdk) rfl) rfl (lt_y (y_faE fa49_1 rfl) rfl (lt_y (y_ixR (reads_sl) Tryz.underlying50 Tryz.sizeOf49 rfl rfl (⟨by omega, by omega⟩)) rfl (lt_y (y_loadS1 Tryz.isAgg3 rfl rfl) rfl (lt_y (y_loadS1 Tryz.isAgg50 rfl rfl) rfl (lt_y (y_fa fa97_1 rfl) rfl (lt_y (y_loadS1 Tryz.isAgg3 rfl (by rw [hx2]; exact hd_at _ _ _ _ _ hpe)) rfl (lt_y (y_ixArr Tryz.underlying95 Tryz.sizeOf3 rfl rfl (⟨by omega, by omega⟩)) rfl (lt_y (y_fa fa97_2 rfl) rfl (lt_y (y_loadS1 Tryz.isAgg3 rfl rfl) rfl (lt_y (y_fa fa49_1 rfl) rfl (lt_nil))))))))))))))))))))))))))))))))))) ?_
    refine pl_yY 35 rfl rfl rfl rfl rfl (y_not rfl) rfl rfl rfl (by kernel_rfl) ?_
    refine pl_y 36 rfl (y_pickT rfl rfl rfl) rfl rfl rfl rfl (by kernel_rfl) ?_
    refine pl_end (by kernel_rfl) ?_
    refine ej_th ?_
    refine cj_cond rfl (fun h53 => ?_) (fun h53 => ?_)
    · have h53b := h53
      try simp only [sxb] at h53
      have hb51 : b51 = false := not_t h53b
      subst hb51
      refine cj_ret (ej_blk_ret (ej_then_ret (ej_then_ret (ej_blk_ret ?_))))
      exact ej_ret0 rfl Tryz.results91 (fun w' hp => ⟨⟨_, rfl⟩, .inr ⟨i + 1, hgrx _ _ _ _ (hdrx _ _ _ _ hT51) hp.below⟩⟩)
    · have h53b := h53
      try simp only [sxb] at h53
      have hb51 : b51 = true := not_f h53b
      subst hb51
      have hJ2 : J [] (i + 1) W51 := hdrop _ _ _ _ hT51
      refine cj_skip (ej_blk (ej_th ?_))
      refine cj_regionG (gj_step (y_add rfl rfl (by omega)) rfl rfl rfl (gj_step (y_move rfl) rfl rfl rfl (gj_nil ?_)))
      rw [show ((i : Nat) : Int) + 1 = ((i + 1 : Nat) : Int) by omega]
      exact ej_nxB (i + 1) (by omega) (by omega) ⟨rfl, rfl, rfl, rfl, rfl, rfl, trivial⟩ (fun w1 hg => hgr _ _ _ _ hJ2 hg)
  · have h13b := h13
    try simp only [sxb] at h13
    have hik : i = (zipI 0 (ds.take (k + 1))).length := by omega
    subst hik
    refine cj_exit (ej_then_exit (ej_then_exit (ej_blk_hit ?_)))
    exact ej_end0 rfl Tryz.results91 (fun w' hp => ⟨⟨_, rfl⟩, .inl (hgr _ _ _ _ hJW hp.below)⟩)

theorem k_window (ds : List DlV) (A : Option Addr) (c : Nat) (wd ws wl wm : Int) (k : Nat) (w : World)  : Calls Tryz.prog 55 #[.agg #[.int .i64 wd, .int .i64 ws, .int .i64 wl, .int .i64 wm, .slice A ds.length c, .int .i64 0, .int .i64 1, .int .i64 2, .int .i64 3, .int .i64 4, .int .i64 5, .int .i64 6, .int .i64 7, .int .i64 8, .int .i64 9, .int .i64 10, .int .i64 11, .int .i64 12, .int .i64 13, .int .i64 14, .int .i64 15, .int .i64 16, .int .i64 17, .int .i64 18, .int .i64 19, .int .i64 20, .int .i64 21, .int .i64 22, .int .i64 23], .int .i64 (k : Nat)] w (fun e w' => ∃ x : Nat × Nat, e = .returned (.func (.func 91) #[] #[.pointer (some ⟨x.1, 0, none⟩), .pointer (some ⟨x.2, 0, none⟩)]) ∧ Grow w w' ∧ (∀ g ∈ ([] : List Fact), g.P w' ∧ ∀ b, g.fp b → w.heap.size ≤ b ∧ b < w'.heap.size) ∧ ([] : List Fact).Pairwise (fun f g => ∀ b, f.fp b → ¬ g.fp b) ∧ (∀ g ∈ [ownB x.1 (cellsB 97 [.int .i64 wd, .int .i64 ws, .int .i64 wl, .int .i64 wm, .slice A ds.length c, .int .i64 0, .int .i64 1, .int .i64 2, .int .i64 3, .int .i64 4, .int .i64 5, .int .i64 6, .int .i64 7, .int .i64 8, .int .i64 9, .int .i64 10, .int .i64 11, .int .i64 12, .int .i64 13, .int .i64 14, .int .i64 15, .int .i64 16, .int .i64 17, .int .i64 18, .int .i64 19, .int .i64 20, .int .i64 21, .int .i64 22, .int .i64 23]), ownB x.2 (cellsB 3 [.int .i64 (k : Nat)])], g.P w' ∧ ∀ b, g.fp b → w.heap.size ≤ b ∧ b < w'.heap.size ∧ ∀ o ∈ ([] : List Fact), ¬ o.fp b)) := by
  refine enter_pure (args := [.agg #[.int .i64 wd, .int .i64 ws, .int .i64 wl, .int .i64 wm, .slice A ds.length c, .int .i64 0, .int .i64 1, .int .i64 2, .int .i64 3, .int .i64 4, .int .i64 5, .int .i64 6, .int .i64 7, .int .i64 8, .int .i64 9, .int .i64 10, .int .i64 11, .int .i64 12, .int .i64 13, .int .i64 14, .int .i64 15, .int .i64 16, .int .i64 17, .int .i64 18, .int .i64 19, .int .i64 20, .int .i64 21, .int .i64 22, .int .i64 23], .int .i64 (k : Nat)]) [] Tryz.func55 rfl (by rw [Tryz.ntmps55]; simp) (by simp) ?_
  refine cj_seq (cj_region ?_)
  refine oj_box rfl rfl rfl (fun b2 => ?_)
  refine oj_box rfl rfl rfl (fun b3 => ?_)
  refine oj_step (y_assign rfl) rfl rfl rfl ?_
  refine oj_nil ?_
  refine ej_th (cj_seq ?_)
  refine cj_regionG (gj_step (y_makeFunc rfl rfl) rfl rfl rfl (gj_step (y_assign rfl) rfl rfl rfl (gj_nil ?_)))
  refine ej_th (cj_ret ?_)
  exact ej_ret1 rfl Tryz.results55 rfl (fun w' hp => ⟨(b2, b3), rfl, hp.below, by simp, List.Pairwise.nil, fun g hg => by
    have hm : g ∈ [ownB b3 (cellsB 3 [.int .i64 (k : Nat)]), ownB b2 (cellsB 97 [.int .i64 wd, .int .i64 ws, .int .i64 wl, .int .i64 wm, .slice A ds.length c, .int .i64 0, .int .i64 1, .int .i64 2, .int .i64 3, .int .i64 4, .int .i64 5, .int .i64 6, .int .i64 7, .int .i64 8, .int .i64 9, .int .i64 10, .int .i64 11, .int .i64 12, .int .i64 13, .int .i64 14, .int .i64 15, .int .i64 16, .int .i64 17, .int .i64 18, .int .i64 19, .int .i64 20, .int .i64 21, .int .i64 22, .int .i64 23])] := by
      simp only [List.mem_cons, List.mem_nil_iff, or_false] at hg ⊢
      exact hg.symm
    exact ⟨(hp.own g hm).1, fun b hb => ⟨Nat.le_of_not_lt ((hp.own g hm).2 b hb).2, ((hp.own g hm).2 b hb).1, by simp⟩⟩⟩)

end Go.Proofs.YtppfniekcgnmjaaGreatDoor.Ti
namespace Go.Proofs.YtppfniekcgnmjaaGreatDoor.Ti
open Go.Sx Go.RowKit
set_option maxRecDepth 20000

end Go.Proofs.YtppfniekcgnmjaaGreatDoor.Ti
namespace Go.Proofs.YtppfniekcgnmjaaGreatDoor.Ti
open Go.Sx Go.RowKit Um
set_option maxRecDepth 20000
set_option maxHeartbeats 2000000 in
theorem k_sums (ds : List DlV) (A : Option Addr) (c : Nat) (wd ws wl wm : Int) (day : Int) (pe : Nat) (k : Nat) (w : World) (hl : Rd w 3 encDl A ds) (hds : AllAt ds day (pe : Nat)) (hpe : pe < 24) (hwd : 1 ≤ wd ∧ wd ≤ 366) (hday : 0 ≤ day ∧ day ≤ 36500) (hcap : ds.length ≤ c) (hlm : ds.length ≤ 64) (hws : 1 ≤ ws ∧ ws ≤ 1073741824) (hlw : wl = ws) (hk : k < ds.length) : Calls Tryz.prog 25 #[.agg #[.int .i64 wd, .int .i64 ws, .int .i64 wl, .int .i64 wm, .slice A ds.length c, .int .i64 0, .int .i64 1, .int .i64 2, .int .i64 3, .int .i64 4, .int .i64 5, .int .i64 6, .int .i64 7, .int .i64 8, .int .i64 9, .int .i64 10, .int .i64 11, .int .i64 12, .int .i64 13, .int .i64 14, .int .i64 15, .int .i64 16, .int .i64 17, .int .i64 18, .int .i64 19, .int .i64 20, .int .i64 21, .int .i64 22, .int .i64 23], .int .i64 (k : Nat)] w (fun e w' => ∃ x : Option Addr × Nat, e = .returned (.tuple #[.slice x.1 (k + 1) x.2, .slice none 0 0, .int .i64 (prefS ds (k + 1))]) ∧ Grow w w' ∧ (∀ g ∈ ([] : List Fact), g.P w' ∧ ∀ b, g.fp b → w.heap.size ≤ b ∧ b < w'.heap.size) ∧ ([] : List Fact).Pairwise (fun f g => ∀ b, f.fp b → ¬ g.fp b) ∧ (∀ g ∈ ([] : List Fact), g.P w' ∧ ∀ b, g.fp b → w.heap.size ≤ b ∧ b < w'.heap.size ∧ ∀ o ∈ ([] : List Fact), ¬ o.fp b)) := by
  have htl : (ds.take (k + 1)).length = k + 1 := by rw [List.length_take]; omega
  have hxl : (zipI 0 (ds.take (k + 1))).length = k + 1 := by rw [zipI_len, htl]
  refine enter_pureM (args := [.agg #[.int .i64 wd, .int .i64 ws, .int .i64 wl, .int .i64 wm, .slice A ds.length c, .int .i64 0, .int .i64 1, .int .i64 2, .int .i64 3, .int .i64 4, .int .i64 5, .int .i64 6, .int .i64 7, .int .i64 8, .int .i64 9, .int .i64 10, .int .i64 11, .int .i64 12, .int .i64 13, .int .i64 14, .int .i64 15, .int .i64 16, .int .i64 17, .int .i64 18, .int .i64 19, .int .i64 20, .int .i64 21, .int .i64 22, .int .i64 23], .int .i64 (k : Nat)]) [sl (fun b => b < w.heap.size) 3 encDl A ds] Tryz.func25 rfl (by rw [Tryz.ntmps25]; simp) (fun g hg => by simp at hg; subst hg; exact ⟨hl, fun _ h => h⟩) ?_
  refine cj_seq (cj_region ?_)
  refine oj_box rfl rfl rfl (fun b2 => ?_)
  refine oj_alloc Tryz.zeroValue26 rfl rfl (fun b4 => ?_)
  refine oj_alloc Tryz.zeroValue26 rfl rfl (fun b5 => ?_)
  refine oj_alloc Tryz.zeroValue3 rfl rfl (fun b6 => ?_)
  refine oj_nil ?_
  refine ej_th (cj_seq (cj_seq (cj_region ?_)))
  refine oj_step (y_loadN Tryz.isAgg97 Tryz.sizeOf97 rfl) rfl rfl rfl ?_
  refine oj_step (y_move rfl) rfl rfl rfl ?_
  refine oj_call (X := Nat × Nat) (fun z => .func (.func 91) #[] #[.pointer (some ⟨z.1, 0, none⟩), .pointer (some ⟨z.2, 0, none⟩)]) (fun _ => []) (fun z => [ownB z.1 (cellsB 97 [.int .i64 wd, .int .i64 ws, .int .i64 wl, .int .i64 wm, .slice A ds.length c, .int .i64 0, .int .i64 1, .int .i64 2, .int .i64 3, .int .i64 4, .int .i64 5, .int .i64 6, .int .i64 7, .int .i64 8, .int .i64 9, .int .i64 10, .int .i64 11, .int .i64 12, .int .i64 13, .int .i64 14, .int .i64 15, .int .i64 16, .int .i64 17, .int .i64 18, .int .i64 19, .int .i64 20, .int .i64 21, .int .i64 22, .int .i64 23]), ownB z.2 (cellsB 3 [.int .i64 (k : Nat)])]) Tryz.call55 rfl (fun w hp => k_window ds A c wd ws wl wm k w) rfl ?_
  rintro ⟨bw, bk⟩
  dsimp only [List.nil_append, List.cons_append]
  refine oj_nil ?_
  refine ej_th (cj_block ?_)
  refine cj_ownNil 3 1 enInt ?_
  refine cj_takes [ownB b4 (cellsB 26 [.slice none 0 0]), ow 3 1 enInt none 0 [], ownB b5 (cellsB 26 [.slice none 0 0]), ownB b6 (cellsB 3 [.int .i64 0]), ownB b2 (cellsB 97 [.int .i64 wd, .int .i64 ws, .int .i64 wl, .int .i64 wm, .slice A ds.length c, .int .i64 0, .int .i64 1, .int .i64 2, .int .i64 3, .int .i64 4, .int .i64 5, .int .i64 6, .int .i64 7, .int .i64 8, .int .i64 9, .int .i64 10, .int .i64 11, .int .i64 12, .int .i64 13, .int .i64 14, .int .i64 15, .int .i64 16, .int .i64 17, .int .i64 18, .int .i64 19, .int .i64 20, .int .i64 21, .int .i64 22, .int .i64 23])] ?_
  refine cj_eqO [ownB b4 (cellsB 26 [.slice none ([] : List Int).length 0]), ow 3 1 enInt none 0 ([] : List Int), ownB b5 (cellsB 26 [.slice none 0 0]), ownB b6 (cellsB 3 [.int .i64 (prefS ds 0)]), ownB b2 (cellsB 97 [.int .i64 wd, .int .i64 ws, .int .i64 wl, .int .i64 wm, .slice A ds.length c, .int .i64 0, .int .i64 1, .int .i64 2, .int .i64 3, .int .i64 4, .int .i64 5, .int .i64 6, .int .i64 7, .int .i64 8, .int .i64 9, .int .i64 10, .int .i64 11, .int .i64 12, .int .i64 13, .int .i64 14, .int .i64 15, .int .i64 16, .int .i64 17, .int .i64 18, .int .i64 19, .int .i64 20, .int .i64 21, .int .i64 22, .int .i64 23])] rfl ?_
  refine cj_rangeX (k_window1 ds A c wd ws wl wm day pe (fun b => b < w.heap.size) bw bk k hds hpe hwd hday hcap hk hlm) (Y := Option Addr × Nat × List Int) (Z := Empty) (fun j y => y.2.2.length = j) (fun j y => [ownB b4 (cellsB 26 [.slice y.1 (y.2.2).length y.2.1]), ow 3 1 enInt y.1 y.2.1 (y.2.2), ownB b5 (cellsB 26 [.slice none 0 0]), ownB b6 (cellsB 3 [.int .i64 (prefS ds j)]), ownB b2 (cellsB 97 [.int .i64 wd, .int .i64 ws, .int .i64 wl, .int .i64 wm, .slice A ds.length c, .int .i64 0, .int .i64 1, .int .i64 2, .int .i64 3, .int .i64 4, .int .i64 5, .int .i64 6, .int .i64 7, .int .i64 8, .int .i64 9, .int .i64 10, .int .i64 11, .int .i64 12, .int .i64 13, .int .i64 14, .int .i64 15, .int .i64 16, .int .i64 17, .int .i64 18, .int .i64 19, .int .i64 20, .int .i64 21, .int .i64 22, .int .i64 23])]) Empty.elim Empty.elim (none, 0, []) rfl rfl Tryz.call91 (fun _ => rfl) rfl ?_ ?_ ?_
  · rintro Xs lo Db r0 r1 j p ⟨A1, c1, out⟩ hp9 hol
    have hol : out.length = j := hol
    have hj := (List.getElem?_eq_some_iff.1 hp9).1
    rw [hxl] at hj
    obtain ⟨x, hx⟩ : ∃ x, ds[j]? = some x := ⟨_, List.getElem?_eq_getElem (by omega)⟩
    obtain rfl : p = (j, x) := by
      rw [zipI_get, List.getElem?_take, if_pos hj, hx] at hp9
      simpa using hp9.symm
    obtain ⟨hx1, hx2, hx3⟩ := hds x (List.mem_of_getElem? hx)
    have hps := prefS_succ hx
    have hpb := prefS_bd hds j
    dsimp only [List.cons_append, List.nil_append]
    refine cj_seq ?_
    refine cj_regionG (gj_step (y_assign rfl) rfl rfl rfl (gj_nil ?_))
    refine ej_th (cj_region ?_)
    refine oj_alloc Tryz.zeroValue49 rfl rfl (fun b8 => ?_)
    refine oj_store rfl rfl rfl rfl Tryz.sizeOf49 rfl ?_
    refine oj_nil ?_
    refine ej_beg (cj_block (cj_seq (cj_region ?_)))
    refine oj_step (y_load1 Tryz.isAgg26 rfl rfl) rfl rfl rfl ?_
    refine oj_step (y_move rfl) rfl rfl rfl ?_
    refine oj_buildSlice (cs := [.int .i64 (j : Nat)]) [.int .i64 0] Tryz.underlying26 Tryz.sizeOf3 Tryz.zeroValue3 rfl rfl (by kernel_rfl) (by kernel_rfl) rfl (fun b16 => ?_)
    refine oj_append  el26 (fun _ => rfl) enInt_one rfl rfl rfl (reads_lit [((j : Nat) : Int)] (fun _ => rfl) rfl) (by unfold maxLen; simp only [List.length_cons, List.length_nil]; omega) (by simp only [List.length_cons, List.length_nil]; omega) rfl (fun A17 c17 => ?_)
    refine oj_store rfl rfl rfl rfl Tryz.sizeOf26 rfl ?_
    refine oj_nil ?_
    refine ej_th (cj_seq (cj_region ?_))
    refine oj_step (y_load1 Tryz.isAgg3 rfl rfl) rfl rfl rfl ?_
    refine oj_step (y_fa fa49_2 rfl) rfl rfl rfl ?_
    refine oj_step (y_load1 Tryz.isAgg3 rfl rfl) rfl rfl rfl ?_
    refine oj_step (y_add rfl rfl (by omega)) rfl rfl rfl ?_
    refine oj_store rfl rfl rfl rfl Tryz.sizeOf3 rfl ?_
    refine oj_nil ?_
    refine ej_th (cj_seq ?_)
    refine cj_regionG ?_
    refine gj_step (y_fa fa49_2 rfl) rfl rfl rfl (gj_step (y_load1 Tryz.isAgg3 rfl rfl) rfl rfl rfl (gj_step (y_fa0 fa97_0 rfl) rfl rfl rfl (gj_step (y_fa fa33_2 rfl) rfl rfl rfl (gj_step (y_load1 Tryz.isAgg3 rfl rfl) rfl rfl rfl (gj_step (y_fa0 fa97_0 rfl) rfl rfl rfl (gj_step (y_fa fa33_1 rfl) rfl rfl rfl (gj_step (y_load1 Tryz.isAgg3 rfl rfl) rfl rfl rfl (gj_step (y_sub rfl rfl (by omega)) rfl rfl rfl (?_)))))))))
    refine gj_step (y_call Tryz.call48 rfl (fun w hp => k_within _ _ _ w)) rfl rfl rfl ?_
    refine gj_nil ?_
    refine ej_th ?_
    refine cj_cond rfl (fun h31 => ?_) (fun h31 => ?_)
    · have := btw_t h31
      omega
    · have h31b := h31
      try simp only [sxb] at h31
      refine cj_skip (ej_blk ?_)
      rw [show prefS ds j + x.sum = prefS ds (j + 1) from hps.symm]
      refine ej_takes [ownB lo r1, ownB Db (.deferred (some [])), ownB b4 (cellsB 26 [.slice A17 (out ++ [((j : Nat) : Int)]).length c17]), ow 3 1 enInt A17 c17 (out ++ [((j : Nat) : Int)]), ownB b5 (cellsB 26 [.slice none 0 0]), ownB b6 (cellsB 3 [.int .i64 (prefS ds (j + 1))]), ownB b2 (cellsB 97 [.int .i64 wd, .int .i64 ws, .int .i64 wl, .int .i64 wm, .slice A ds.length c, .int .i64 0, .int .i64 1, .int .i64 2, .int .i64 3, .int .i64 4, .int .i64 5, .int .i64 6, .int .i64 7, .int .i64 8, .int .i64 9, .int .i64 10, .int .i64 11, .int .i64 12, .int .i64 13, .int .i64 14, .int .i64 15, .int .i64 16, .int .i64 17, .int .i64 18, .int .i64 19, .int .i64 20, .int .i64 21, .int .i64 22, .int .i64 23])] ?_
      exact ej_rdS (A17, c17, out ++ [((j : Nat) : Int)]) (by simp [hol]) (fun _ h => h)
  · rintro Db ⟨A1, c1, out⟩ hol
    have hol : out.length = _ := hol
    rw [hxl] at hol
    rw [hxl]
    refine ej_blk (ej_th (cj_seq ?_))
    refine cj_plan 6 (by kernel_rfl) (by kernel_rfl) ?_
    refine pl_y 0 rfl (y_load1 Tryz.isAgg26 rfl rfl) rfl rfl rfl rfl (by kernel_rfl) ?_
    refine pl_y 1 rfl (y_load1 Tryz.isAgg26 rfl rfl) rfl rfl rfl rfl (by kernel_rfl) ?_
    refine pl_y 2 rfl (y_load1 Tryz.isAgg3 rfl rfl) rfl rfl rfl rfl (by kernel_rfl) ?_
    refine pl_w1 3 (by kernel_rfl) rfl rfl (pl_fire rfl rfl rfl (by kernel_rfl) ?_)
    refine oj_store rfl rfl rfl rfl Tryz.sizeOf26 rfl ?_
    refine oj_nil ?_
    refine ej_pl (lt_y (y_load1 Tryz.isAgg3 rfl rfl) rfl (lt_y (y_load1 Tryz.isAgg26 rfl rfl) rfl (lt_w (by kernel_rfl) (lt_nil)))) ?_
    refine pl_w1 4 (by kernel_rfl) rfl rfl (pl_fire rfl rfl rfl (by kernel_rfl) ?_)
    refine oj_store rfl rfl rfl rfl Tryz.sizeOf26 rfl ?_
    refine oj_nil ?_
    refine ej_pl (lt_y (y_load1 Tryz.isAgg3 rfl rfl) rfl (lt_w (by kernel_rfl) (lt_w (by kernel_rfl) (lt_nil)))) ?_
    refine pl_w1 5 (by kernel_rfl) rfl rfl (pl_fire rfl rfl rfl (by kernel_rfl) ?_)
    refine oj_store rfl rfl rfl rfl Tryz.sizeOf3 rfl ?_
    refine oj_nil ?_
    refine ej_pl (lt_w (by kernel_rfl) (lt_w (by kernel_rfl) (lt_w (by kernel_rfl) (lt_nil)))) ?_
    refine pl_end (by kernel_rfl) ?_
    refine ej_th (cj_ret ?_)
    exact ej_retM3 rfl Tryz.results25 rfl (y_load1 Tryz.isAgg26 rfl rfl) rfl (y_load1 Tryz.isAgg26 rfl rfl) rfl (y_load1 Tryz.isAgg3 rfl rfl) (fun w' hp => ⟨(A1, c1), by rw [hol], hp.below, by simp, .nil, by simp⟩)
  · intro Db z; exact z.elim

theorem k_reported (ds : List DlV) (A : Option Addr) (c : Nat) (wd ws wl wm : Int) (day : Int) (pe : Nat) (k : Nat) (w : World) (hl : Rd w 3 encDl A ds) (hds : AllAt ds day (pe : Nat)) (hpe : pe < 24) (hwd : 1 ≤ wd ∧ wd ≤ 366) (hday : 0 ≤ day ∧ day ≤ 36500) (hcap : ds.length ≤ c) (hlm : ds.length ≤ 64) (hws : 1 ≤ ws ∧ ws ≤ 1073741824) (hlw : wl = ws) (hwm : 1 ≤ wm) (hk : k < ds.length) : Calls Tryz.prog 24 #[.agg #[.int .i64 wd, .int .i64 ws, .int .i64 wl, .int .i64 wm, .slice A ds.length c, .int .i64 0, .int .i64 1, .int .i64 2, .int .i64 3, .int .i64 4, .int .i64 5, .int .i64 6, .int .i64 7, .int .i64 8, .int .i64 9, .int .i64 10, .int .i64 11, .int .i64 12, .int .i64 13, .int .i64 14, .int .i64 15, .int .i64 16, .int .i64 17, .int .i64 18, .int .i64 19, .int .i64 20, .int .i64 21, .int .i64 22, .int .i64 23], .int .i64 (k : Nat)] w (fun e w' => e = .returned (.bool (decide (ws ≤ prefS ds (k + 1)))) ∧ Grow w w') := by
  refine enter_pure (args := [.agg #[.int .i64 wd, .int .i64 ws, .int .i64 wl, .int .i64 wm, .slice A ds.length c, .int .i64 0, .int .i64 1, .int .i64 2, .int .i64 3, .int .i64 4, .int .i64 5, .int .i64 6, .int .i64 7, .int .i64 8, .int .i64 9, .int .i64 10, .int .i64 11, .int .i64 12, .int .i64 13, .int .i64 14, .int .i64 15, .int .i64 16, .int .i64 17, .int .i64 18, .int .i64 19, .int .i64 20, .int .i64 21, .int .i64 22, .int .i64 23], .int .i64 (k : Nat)]) [sl (fun b => b < w.heap.size) 3 encDl A ds] Tryz.func24 rfl (by rw [Tryz.ntmps24]; simp) (fun g hg => by simp at hg; subst hg; exact ⟨hl, fun _ h => h⟩) ?_
  refine cj_seq (cj_region ?_)
  refine oj_box rfl rfl rfl (fun b2 => ?_)
  refine oj_step (y_assign rfl) rfl rfl rfl ?_
  refine oj_nil ?_
  refine ej_th (cj_seq (cj_region ?_))
  refine oj_step (y_loadN Tryz.isAgg97 Tryz.sizeOf97 rfl) rfl rfl rfl ?_
  refine oj_step (y_move rfl) rfl rfl rfl ?_
  refine oj_call (X := Option Addr × Nat) (fun x => .tuple #[.slice x.1 (k + 1) x.2, .slice none 0 0, .int .i64 (prefS ds (k + 1))]) (fun _ => []) (fun _ => []) Tryz.call25 rfl (fun w hp => k_sums ds A c wd ws wl wm day pe k w hp.rd hds hpe hwd hday hcap hlm hws hlw hk) rfl ?_
  rintro ⟨As, cs⟩
  dsimp only [List.nil_append, List.cons_append]
  refine oj_step (y_move rfl) rfl rfl rfl ?_
  refine oj_step (y_extract rfl rfl) rfl rfl rfl ?_
  refine oj_step (y_extract rfl rfl) rfl rfl rfl ?_
  refine oj_step (y_extract rfl rfl) rfl rfl rfl ?_
  refine oj_step (y_assign rfl) rfl rfl rfl ?_
  refine oj_step (y_assign rfl) rfl rfl rfl ?_
  refine oj_step (y_assign rfl) rfl rfl rfl ?_
  refine oj_nil ?_
  refine ej_th (cj_seq ?_)
  refine cj_regionG (gj_step (y_move rfl) rfl rfl rfl (gj_step (y_fa0 fa97_0 rfl) rfl rfl rfl (gj_step (y_fa fa33_1 rfl) rfl rfl rfl (gj_step (y_load1 Tryz.isAgg3 rfl rfl) rfl rfl rfl (gj_step (y_geq rfl rfl) rfl rfl rfl (gj_step (y_move rfl) rfl rfl rfl (gj_g 6 20 26 rfl rfl rfl rfl (fun hg20 => gj_yes rfl rfl rfl (y_move rfl) rfl rfl (gj_yes rfl rfl rfl (y_lenA Tryz.underlying26 rfl) rfl rfl (gj_yes rfl rfl rfl (y_fa0 fa97_0 rfl) rfl rfl (gj_yes rfl rfl rfl (y_fa fa33_3 rfl) rfl rfl (gj_yes rfl rfl rfl (y_load1 Tryz.isAgg3 rfl rfl) rfl rfl (gj_yes rfl rfl rfl (y_geq rfl rfl) rfl rfl (gj_nil rfl))))))) (gj_step (y_or rfl rfl rfl) rfl rfl rfl (gj_step (y_assign rfl) rfl rfl rfl (gj_nil ?_))))))))))
  refine ej_th (cj_ret ?_)
  refine ej_ret1 rfl Tryz.results24 rfl (fun w' hp => ⟨?_, hp.below⟩)
  rw [show decide (wm ≤ ((0 : Nat) : Int)) = false from decide_eq_false (by omega), Bool.or_false]

theorem k_IndexL (l : List DlV) (A : Option Addr) (c : Nat) (f : Nat) (fi ca : Array Value) (q : DlV → Bool) (w : World) (hl : Rd w 3 encDl A l) (hen : ∀ args w, (callFunc f args).run Tryz.prog w = .ok (.enter f args) w) (hpp : ∀ x ∈ l, ∀ w1, Grow w w1 → Calls Tryz.prog f (fi ++ [.agg #[.int .i64 x.day, .int .i64 x.who, .int .i64 x.sum]].toArray ++ ca) w1 (fun e w2 => e = .returned (.bool (q x)) ∧ Grow w1 w2)) : Calls Tryz.prog 22 #[.slice A l.length c, .func (.func f) fi ca] w (fun e w' => e = .returned (.int .i64 (fidx q l 0)) ∧ Grow w w') := by
  have hlen := hl.len
  refine enter_pure (args := [.slice A l.length c, .func (.func f) fi ca]) [sl (fun b => b < w.heap.size) 3 encDl A l] Tryz.func22 rfl (by rw [Tryz.ntmps22]; simp) (fun g hg => by simp at hg; subst hg; exact ⟨hl, fun _ h => h⟩) ?_
  refine cj_seq ?_
  refine cj_regionG (gj_step (y_assign rfl) rfl rfl rfl (gj_nil ?_))
  refine ej_th (cj_seq (cj_seq ?_))
  refine cj_regionG (gj_step (y_move rfl) rfl rfl rfl (gj_step (y_lenA Tryz.underlying50 rfl) rfl rfl rfl (gj_step (y_move rfl) rfl rfl rfl (gj_nil ?_))))
  refine ej_th (cj_block ?_)
  refine cj_lpic (X := Nat) [(0, _), (1, _), (7, _)] (fun k => k ≤ l.length ∧ fidx q (l.drop k) k = fidx q l 0) (fun k => [(8, .int .i64 (k : Nat))]) (fun k => l.length - k) 0 (⟨Nat.zero_le _, rfl⟩) ⟨rfl, rfl, rfl, rfl, trivial⟩ ?_
  rintro k ⟨hk, hsk⟩
  dsimp only [List.cons_append, List.nil_append]
  refine cj_seq ?_
  refine cj_regionG (gj_step (y_lss rfl rfl) rfl rfl rfl (gj_nil ?_))
  refine ej_th (cj_seq ?_)
  refine cj_cond rfl (fun h9 => ?_) (fun h9 => ?_)
  · have h9b := h9
    try simp only [sxb] at h9
    obtain ⟨x, hx⟩ : ∃ x, l[k]? = some x := ⟨_, List.getElem?_eq_getElem (by omega)⟩
    rw [fidx_drop q l k x hx] at hsk
    refine cj_skip (ej_th (cj_seq (cj_block (cj_seq ?_))))
    refine cj_regionG (gj_step (y_move rfl) rfl rfl rfl (gj_step (y_assign rfl) rfl rfl rfl (gj_nil ?_)))
    refine ej_th (cj_seq ?_)
    refine cj_regionG ?_
    refine gj_step (y_move rfl) rfl rfl rfl (gj_step (y_move rfl) rfl rfl rfl (gj_step (y_move rfl) rfl rfl rfl (gj_step (y_ixR (reads_sl) Tryz.underlying50 Tryz.sizeOf49 rfl rfl (⟨by omega, by omega⟩)) rfl rfl rfl (gj_step (y_ldW (reads_sl) Tryz.isAgg49 Tryz.sizeOf49 rfl (hx) (fun _ => rfl)) rfl rfl rfl (?_)))))
    refine gj_step (y_callV hen rfl rfl (fun w1 hp => hpp x (List.mem_of_getElem? hx) w1 hp.below)) rfl rfl rfl ?_
    refine gj_nil ?_
    refine ej_th ?_
    refine cj_cond rfl (fun h16 => ?_) (fun h16 => ?_)
    · have h16b := h16
      try simp only [sxb] at h16
      refine cj_seq ?_
      refine cj_regionG (gj_step (y_move rfl) rfl rfl rfl (gj_step (y_assign rfl) rfl rfl rfl (gj_nil ?_)))
      refine ej_th (cj_ret (ej_blk_ret (ej_then_ret (ej_then_ret (ej_blk_ret (ej_then_ret ?_))))))
      refine ej_ret1 rfl Tryz.results22 rfl (fun w' hp => ⟨?_, hp.below⟩)
      rw [← hsk, if_pos h16b]
    · have h16b := h16
      try simp only [sxb] at h16
      refine cj_skip (ej_blk (ej_th ?_))
      refine cj_regionG (gj_step (y_add rfl rfl (by omega)) rfl rfl rfl (gj_step (y_move rfl) rfl rfl rfl (gj_nil ?_)))
      exact ej_nx (k + 1) (by omega) ⟨by omega, by rw [← hsk, if_neg (by rw [h16b]; simp)]⟩ ⟨rfl, rfl, rfl, rfl, trivial⟩
  · have h9b := h9
    try simp only [sxb] at h9
    refine cj_exit (ej_then_exit (ej_then_exit (ej_blk_hit (ej_th (cj_seq ?_)))))
    refine cj_regionG (gj_step (y_assign rfl) rfl rfl rfl (gj_nil ?_))
    refine ej_th (cj_ret ?_)
    refine ej_ret1 rfl Tryz.results22 rfl (fun w' hp => ⟨?_, hp.below⟩)
    rw [← hsk, List.drop_of_length_le (by omega)]; rfl

theorem k_al1 (ds : List DlV) (A : Option Addr) (c : Nat) (wd ws wl wm : Int) (pe : Nat) (x : DlV) (p : Int) (bw bp : Nat) (w : World) (hx : x.who = (pe : Nat)) (hpe : pe < 24) (h1 : (ownB bw (cellsB 97 [.int .i64 wd, .int .i64 ws, .int .i64 wl, .int .i64 wm, .slice A ds.length c, .int .i64 0, .int .i64 1, .int .i64 2, .int .i64 3, .int .i64 4, .int .i64 5, .int .i64 6, .int .i64 7, .int .i64 8, .int .i64 9, .int .i64 10, .int .i64 11, .int .i64 12, .int .i64 13, .int .i64 14, .int .i64 15, .int .i64 16, .int .i64 17, .int .i64 18, .int .i64 19, .int .i64 20, .int .i64 21, .int .i64 22, .int .i64 23])).P w) (h2 : (ownB bp (cellsB 3 [.int .i64 p])).P w) : Calls Tryz.prog 23 #[.agg #[.int .i64 x.day, .int .i64 x.who, .int .i64 x.sum], .pointer (some ⟨bw, 0, none⟩), .pointer (some ⟨bp, 0, none⟩)] w (fun e w' => e = .returned (.bool ((pe : Int) == p)) ∧ Grow w w') := by
  refine enter_pure (args := [.agg #[.int .i64 x.day, .int .i64 x.who, .int .i64 x.sum], .pointer (some ⟨bw, 0, none⟩), .pointer (some ⟨bp, 0, none⟩)]) [ownB bw (cellsB 97 [.int .i64 wd, .int .i64 ws, .int .i64 wl, .int .i64 wm, .slice A ds.length c, .int .i64 0, .int .i64 1, .int .i64 2, .int .i64 3, .int .i64 4, .int .i64 5, .int .i64 6, .int .i64 7, .int .i64 8, .int .i64 9, .int .i64 10, .int .i64 11, .int .i64 12, .int .i64 13, .int .i64 14, .int .i64 15, .int .i64 16, .int .i64 17, .int .i64 18, .int .i64 19, .int .i64 20, .int .i64 21, .int .i64 22, .int .i64 23]), ownB bp (cellsB 3 [.int .i64 p])] Tryz.func23 rfl (by rw [Tryz.ntmps23]; simp) (fun g hg => by
    simp only [List.mem_cons, List.mem_nil_iff, or_false] at hg
    rcases hg with rfl | rfl
    · exact ⟨h1, fun i hi => by have hi : i = bw := hi; subst hi; exact (Array.getElem?_eq_some_iff.1 h1).1⟩
    · exact ⟨h2, fun i hi => by have hi : i = bp := hi; subst hi; exact (Array.getElem?_eq_some_iff.1 h2).1⟩) ?_
  refine cj_seq (cj_region ?_)
  refine oj_box rfl rfl rfl (fun b3 => ?_)
  refine oj_step (y_assign rfl) rfl rfl rfl ?_
  refine oj_nil ?_
  refine ej_th (cj_seq ?_)
  refine cj_draw (by kernel_rfl) (by kernel_rfl) (gj_step (y_fa fa49_1 rfl) rfl rfl rfl (gj_step (y_load1 Tryz.isAgg3 rfl rfl) rfl rfl rfl (gj_step (y_fa fa97_2 rfl) rfl rfl rfl (gj_step (y_ixArr Tryz.underlying95 Tryz.sizeOf3 rfl rfl (⟨by omega, by omega⟩)) rfl rfl rfl (gj_step (y_loadS1 Tryz.isAgg3 rfl (by rw [hx]; exact hd_at _ _ _ _ _ hpe)) rfl rfl rfl (gj_step (y_loadS1 Tryz.isAgg3 rfl rfl) rfl rfl rfl (gj_step (y_eql rfl rfl) rfl rfl rfl (gj_step (y_assign rfl) rfl rfl rfl (gj_nil ?_)))))))))
  refine ej_th (cj_ret ?_)
  exact ej_ret1 rfl Tryz.results23 rfl (fun w' hp => ⟨rfl, hp.below⟩)

end Go.Proofs.YtppfniekcgnmjaaGreatDoor.Ti
namespace Go.Proofs.YtppfniekcgnmjaaGreatDoor.Ti
open Go.Sx Go.RowKit
set_option maxRecDepth 20000
theorem el45 : ElemIs Tryz.prog 45 52 3 24 := ⟨⟨_, (.agg #[.int .i64 0, .int .i64 0, .int .i64 0]), Tryz.underlying45, Tryz.type52, by kernel_rfl, by kernel_rfl, by kernel_rfl, by kernel_rfl, by decide⟩⟩
theorem st52 : StructIs Tryz.prog 52 [(0, 1), (1, 1), (2, 1)] [.int .i64 0, .int .i64 0, .int .i64 0] := ⟨⟨_, Tryz.underlying52, fun w => by simp [Tryz.sizeOf3], Tryz.zeroValue52⟩⟩
end Go.Proofs.YtppfniekcgnmjaaGreatDoor.Ti
namespace Go.Proofs.YtppfniekcgnmjaaGreatDoor.Ti
open Go.Sx Go.RowKit Um
set_option maxRecDepth 20000
theorem k_Alarms_no (ds : List DlV) (A : Option Addr) (c : Nat) (wd ws wl wm : Int) (day : Int) (pe : Nat) (w : World) (hl : Rd w 3 encDl A ds) (hds : AllAt ds day (pe : Nat)) (hpe : pe < 24) (hday : 0 ≤ day ∧ day ≤ 36500) (hl2 : ds.length ≤ 2) (hok : watB wd ws wl wm = false) : Calls Tryz.prog 10 #[.slice A ds.length c, .slice none 0 0, .agg #[.int .i64 wd, .int .i64 ws, .int .i64 wl, .int .i64 wm]] w (fun e w' => e = .returned (.tuple #[.slice none 0 0, .int .i64 83]) ∧ Grow w w') := by
  refine enter_pure (args := [.slice A ds.length c, .slice none 0 0, .agg #[.int .i64 wd, .int .i64 ws, .int .i64 wl, .int .i64 wm]]) [sl (fun b => b < w.heap.size) 3 encDl A ds] Tryz.func10 rfl (by rw [Tryz.ntmps10]; simp) (fun g hg => by simp at hg; subst hg; exact ⟨hl, fun _ h => h⟩) ?_
  refine cj_seq (cj_region ?_)
  refine oj_box rfl rfl rfl (fun b5 => ?_)
  refine oj_step (y_assign rfl) rfl rfl rfl ?_
  refine oj_step (y_assign rfl) rfl rfl rfl ?_
  refine oj_nil ?_
  refine ej_th (cj_seq (cj_region ?_))
  refine oj_step (y_move rfl) rfl rfl rfl ?_
  refine oj_step (y_move rfl) rfl rfl rfl ?_
  refine oj_step (y_loadN Tryz.isAgg33 Tryz.sizeOf33 rfl) rfl rfl rfl ?_
  refine oj_step (y_call Tryz.call21 rfl (fun w hp => k_watchOf_no ds A c wd ws wl wm day pe w hp.rd hds hpe hday hl2 hok)) rfl rfl rfl ?_
  refine oj_step (y_move rfl) rfl rfl rfl ?_
  refine oj_step (y_extract rfl rfl) rfl rfl rfl ?_
  refine oj_step (y_extract rfl rfl) rfl rfl rfl ?_
  refine oj_alloc Tryz.zeroValue97 rfl rfl (fun b8 => ?_)
  refine oj_store rfl rfl rfl rfl Tryz.sizeOf97 rfl ?_
  refine oj_step (y_assign rfl) rfl rfl rfl ?_
  refine oj_nil ?_
  refine ej_th (cj_seq (cj_seq ?_))
  refine cj_regionG (gj_step (y_move rfl) rfl rfl rfl (gj_step (y_neq rfl rfl) rfl rfl rfl (gj_nil ?_)))
  refine ej_th ?_
  refine cj_cond rfl (fun h24 => ?_) (fun h24 => ?_)
  · have h24b := h24
    try simp only [sxb] at h24
    refine cj_seq ?_
    refine cj_regionG (gj_step (y_move rfl) rfl rfl rfl (gj_step (y_assign rfl) rfl rfl rfl (gj_step (y_assign rfl) rfl rfl rfl (gj_nil ?_))))
    refine ej_th (cj_ret (ej_then_ret ?_))
    refine ej_ret2 rfl Tryz.results10 rfl rfl (fun w' hp => ⟨?_, hp.below⟩)
    rfl
  · exact absurd h24 (by decide)

set_option maxHeartbeats 4000000 in
theorem k_Alarms_ok (ds : List DlV) (A : Option Addr) (c : Nat) (wd ws wl wm : Int) (day : Int) (pe : Nat) (w : World) (hl : Rd w 3 encDl A ds) (hds : AllAt ds day (pe : Nat)) (hpe : pe < 24) (hday : 0 ≤ day ∧ day ≤ 36500) (hl2 : ds.length ≤ 2) (hne : 0 < ds.length) (hcap : ds.length ≤ c) (hok : watB wd ws wl wm = true) (hlw : wl = ws) : Calls Tryz.prog 10 #[.slice A ds.length c, .slice none 0 0, .agg #[.int .i64 wd, .int .i64 ws, .int .i64 wl, .int .i64 wm]] w (fun e w' => ∃ A1 c1, e = .returned (.tuple #[.slice A1 (AlaL ds ws (pe : Nat)).length c1, .int .i64 0]) ∧ Grow w w' ∧ Res w w' 3 encAl A1 (AlaL ds ws (pe : Nat))) := by
  obtain ⟨hwd, hws, hwl, hwm⟩ := wat_bd hok
  have hlm : ds.length ≤ 64 := by omega
  refine enter_pure (args := [.slice A ds.length c, .slice none 0 0, .agg #[.int .i64 wd, .int .i64 ws, .int .i64 wl, .int .i64 wm]]) [sl (fun b => b < w.heap.size) 3 encDl A ds] Tryz.func10 rfl (by rw [Tryz.ntmps10]; simp) (fun g hg => by simp at hg; subst hg; exact ⟨hl, fun _ h => h⟩) ?_
  refine cj_seq (cj_region ?_)
  refine oj_box rfl rfl rfl (fun b5 => ?_)
  refine oj_step (y_assign rfl) rfl rfl rfl ?_
  refine oj_step (y_assign rfl) rfl rfl rfl ?_
  refine oj_nil ?_
  refine ej_th (cj_seq (cj_region ?_))
  refine oj_step (y_move rfl) rfl rfl rfl ?_
  refine oj_step (y_move rfl) rfl rfl rfl ?_
  refine oj_step (y_loadN Tryz.isAgg33 Tryz.sizeOf33 rfl) rfl rfl rfl ?_
  refine oj_step (y_call Tryz.call21 rfl (fun w hp => k_watchOf_ok ds A c wd ws wl wm day pe w hp.rd hds hpe hday hl2 hok)) rfl rfl rfl ?_
  refine oj_step (y_move rfl) rfl rfl rfl ?_
  refine oj_step (y_extract rfl rfl) rfl rfl rfl ?_
  refine oj_step (y_extract rfl rfl) rfl rfl rfl ?_
  refine oj_alloc Tryz.zeroValue97 rfl rfl (fun b8 => ?_)
  refine oj_store rfl rfl rfl rfl Tryz.sizeOf97 rfl ?_
  refine oj_step (y_assign rfl) rfl rfl rfl ?_
  refine oj_nil ?_
  refine ej_th (cj_seq (cj_seq ?_))
  refine cj_regionG (gj_step (y_move rfl) rfl rfl rfl (gj_step (y_neq rfl rfl) rfl rfl rfl (gj_nil ?_)))
  refine ej_th ?_
  refine cj_cond rfl (fun h24 => ?_) (fun h24 => ?_)
  · exact absurd h24 (by decide)
  · have h24b := h24
    try simp only [sxb] at h24
    refine cj_skip (ej_th (cj_seq ?_))
    refine cj_regionG (gj_step (y_assign rfl) rfl rfl rfl (gj_nil ?_))
    refine ej_th (cj_seq (cj_seq ?_))
    refine cj_ownNil 52 3 encAl ?_
    refine cj_regionG (gj_step (y_move rfl) rfl rfl rfl (gj_nil ?_))
    refine ej_th (cj_block ?_)
    refine cj_lpi (X := Nat × Option Addr × Nat × List AlV) [(0, _), (6, _), (7, _), (8, _)] (fun ⟨p, Ao, co, out⟩ => p ≤ 24 ∧ out = (if pe < p then AlaL ds ws (pe : Nat) else [])) (fun ⟨p, Ao, co, out⟩ => [(26, .int .i64 (p : Nat)), (10, .slice Ao out.length co)]) (fun ⟨p, Ao, co, out⟩ => [ow 52 3 encAl Ao co out, ownB b8 (cellsB 97 [.int .i64 wd, .int .i64 ws, .int .i64 wl, .int .i64 wm, .slice A ds.length c, .int .i64 0, .int .i64 1, .int .i64 2, .int .i64 3, .int .i64 4, .int .i64 5, .int .i64 6, .int .i64 7, .int .i64 8, .int .i64 9, .int .i64 10, .int .i64 11, .int .i64 12, .int .i64 13, .int .i64 14, .int .i64 15, .int .i64 16, .int .i64 17, .int .i64 18, .int .i64 19, .int .i64 20, .int .i64 21, .int .i64 22, .int .i64 23]), ownB b5 (cellsB 33 [.int .i64 wd, .int .i64 ws, .int .i64 wl, .int .i64 wm])]) (fun ⟨p, Ao, co, out⟩ => [sl (fun b => b < w.heap.size) 3 encDl A ds]) (fun ⟨p, Ao, co, out⟩ => 24 - p) (0, none, 0, []) (⟨Nat.zero_le _, by rw [if_neg (by omega)]⟩) ⟨rfl, rfl, rfl, rfl, rfl, rfl, trivial⟩ ?_
    rintro ⟨p, Ao, co, out⟩ ⟨hp24, hou⟩
    dsimp only [List.cons_append, List.nil_append]
    refine cj_seq ?_
    refine cj_regionG (gj_step (y_lss rfl rfl) rfl rfl rfl (gj_nil ?_))
    refine ej_th (cj_seq ?_)
    refine cj_cond rfl (fun h27 => ?_) (fun h27 => ?_)
    · have h27b := h27
      try simp only [sxb] at h27
      refine cj_skip (ej_th (cj_seq (cj_block (cj_seq (cj_region ?_)))))
      refine oj_step (y_move rfl) rfl rfl rfl ?_
      refine oj_alloc Tryz.zeroValue3 rfl rfl (fun b11 => ?_)
      refine oj_store rfl rfl rfl rfl Tryz.sizeOf3 rfl ?_
      refine oj_nil ?_
      refine ej_th (cj_seq ?_)
      refine cj_regionG ?_
      refine gj_step (y_move rfl) rfl rfl rfl (gj_step (y_makeFunc rfl rfl) rfl rfl rfl (?_))
      refine gj_step (y_call Tryz.call22 rfl (fun w hp => k_IndexL ds A c 23 #[] #[.pointer (some ⟨b8, 0, none⟩), .pointer (some ⟨b11, 0, none⟩)] (fun _ : DlV => ((pe : Int) == ((p : Nat) : Int))) w hp.rd Tryz.call23 (fun x hx w1 hg => k_al1 ds A c wd ws wl wm pe x p b8 b11 w1 (hds x hx).2.1 hpe ((hp.grow hg).own1) ((hp.grow hg).own1)))) rfl rfl rfl ?_
      refine gj_step (y_assign rfl) rfl rfl rfl (?_)
      refine gj_nil ?_
      refine ej_th (cj_seq (cj_block ?_))
      refine cj_lpic (X := Int) [(26, _), (10, _), (0, _), (6, _), (7, _), (8, _), (11, _)] (fun kk => (pe = p ∧ 0 ≤ kk ∧ kk ≤ ds.length ∧ frsF ds ws (ds.length - kk.toNat) kk.toNat = frsF ds ws ds.length 0) ∨ (pe ≠ p ∧ kk = -1)) (fun kk => [(12, .int .i64 kk)]) (fun kk => ds.length - kk.toNat) (fidx (fun _ : DlV => ((pe : Int) == ((p : Nat) : Int))) ds 0) (by
        rw [fidx_const hne]
        by_cases h : pe = p
        · rw [if_pos (by rw [h]; simp)]
          exact .inl ⟨h, Int.le_refl _, by omega, rfl⟩
        · rw [if_neg (by simp; omega)]
          exact .inr ⟨h, rfl⟩) ⟨rfl, rfl, rfl, rfl, rfl, rfl, rfl, rfl, trivial⟩ ?_
      rintro kk hkk
      dsimp only [List.cons_append, List.nil_append]
      have hdw : (0 ≤ kk ∧ kk < ds.length) → (ds.getD kk.toNat default).who = (pe : Nat) := fun h => (hds _ (List.mem_of_getElem? (geq default (show kk.toNat < ds.length by omega)))).2.1
      have hdB : (0 ≤ kk ∧ kk < ds.length) → 0 ≤ (ds.getD kk.toNat default).who ∧ (ds.getD kk.toNat default).who < 24 := fun h => by have := hdw h; omega
      have hdA : (0 ≤ kk ∧ kk < ds.length) → ([.int .i64 wd, .int .i64 ws, .int .i64 wl, .int .i64 wm, .slice A ds.length c, .int .i64 0, .int .i64 1, .int .i64 2, .int .i64 3, .int .i64 4, .int .i64 5, .int .i64 6, .int .i64 7, .int .i64 8, .int .i64 9, .int .i64 10, .int .i64 11, .int .i64 12, .int .i64 13, .int .i64 14, .int .i64 15, .int .i64 16, .int .i64 17, .int .i64 18, .int .i64 19, .int .i64 20, .int .i64 21, .int .i64 22, .int .i64 23] : List Value)[5 + (ds.getD kk.toNat default).who.toNat * 1]? = some (.int .i64 (pe : Nat)) := fun h => by
        rw [hdw h]; exact hd_at _ _ _ _ _ hpe
      refine cj_seq (cj_seq ?_)
      skip
      refine cj_draw (by kernel_rfl) (by kernel_rfl) ?_
      refine gj_step (y_move rfl) rfl rfl rfl (gj_step (y_geq rfl rfl) rfl rfl rfl (gj_step (y_move rfl) rfl rfl rfl (?_)))
      refine gj_g 4 34 38 rfl rfl rfl rfl (fun hg34 => gj_yes rfl rfl rfl (y_move rfl) rfl rfl (gj_yes rfl rfl rfl (y_move rfl) rfl rfl (gj_yes rfl rfl rfl (y_lenA Tryz.underlying50 rfl) rfl rfl (gj_yes rfl rfl rfl (y_lss rfl rfl) rfl rfl (gj_nil rfl))))) ?_
      refine gj_step (y_and rfl rfl rfl) rfl rfl rfl (gj_step (y_move rfl) rfl rfl rfl (?_))
      refine gj_g 16 40 56 rfl rfl rfl rfl (fun hg40 => gj_yes rfl rfl rfl (y_move rfl) rfl rfl (gj_yes rfl rfl rfl (y_move rfl) rfl rfl (gj_yes rfl rfl rfl (y_ixR (reads_sl) Tryz.underlying50 Tryz.sizeOf49 rfl rfl (⟨by have h7 := hg40; simp only [sxb] at h7; omega, by have h7 := hg40; simp only [sxb] at h7; omega⟩)) rfl rfl (gj_yes rfl rfl rfl (y_faE fa49_1 rfl) rfl rfl (gj_yes rfl rfl rfl (y_ld1 (reads_sl) Tryz.isAgg3 rfl (geq default (by have h7 := hg40; simp only [sxb] at h7; omega)) rfl) rfl rfl (gj_yes rfl rfl rfl (y_fa fa97_2 rfl) rfl rfl (gj_yes rfl rfl rfl (y_ixArr Tryz.underlying95 Tryz.sizeOf3 rfl rfl (hdB (by have h7 := hg40; simp only [sxb] at h7; omega))) rfl rfl (gj_yes rfl rfl rfl (y_load1 Tryz.isAgg3 rfl (hdA (by have h7 := hg40; simp only [sxb] at h7; omega))) rfl rfl (gj_yes rfl rfl rfl (y_load1 Tryz.isAgg3 rfl rfl) rfl rfl (gj_yes rfl rfl rfl (y_neq rfl rfl) rfl rfl (gj_yes rfl rfl rfl (y_move rfl) rfl rfl (gj_g 4 51 55 rfl rfl rfl rfl (fun hg51 => gj_yes rfl rfl rfl (y_loadN Tryz.isAgg97 Tryz.sizeOf97 rfl) rfl rfl (gj_yes rfl rfl rfl (y_move rfl) rfl rfl (gj_yes rfl rfl rfl (y_call Tryz.call24 rfl (fun w hp => by
        have h7 := hg40
        simp only [sxb] at h7
        have h9 := k_reported ds A c wd ws wl wm day pe kk.toNat w hp.rd hds hpe hwd hday hcap hlm hws hlw hwm.1 (by omega)
        rw [Int.toNat_of_nonneg (by omega)] at h9
        exact h9)) rfl rfl (gj_yes rfl rfl rfl (y_not rfl) rfl rfl (gj_nil rfl))))) (gj_yes rfl rfl rfl (y_or rfl rfl rfl) rfl rfl (gj_nil rfl)))))))))))))) ?_
      refine gj_step (y_and rfl rfl rfl) rfl rfl rfl (?_)
      refine gj_nil ?_
      refine ej_th ?_
      refine cj_cond rfl (fun h57 => ?_) (fun h57 => ?_)
      · have h57b := h57
        try simp only [sxb] at h57
        simp only [Bool.and_eq_true, Bool.or_eq_true, decide_eq_true_eq, bne_iff_ne, ne_eq, Bool.not_eq_true', decide_eq_false_iff_not] at h57b
        refine cj_skip (ej_th (cj_block ?_))
        refine cj_regionG (gj_step (y_move rfl) rfl rfl rfl (gj_step (y_add rfl rfl (by omega)) rfl rfl rfl (gj_step (y_assign rfl) rfl rfl rfl (gj_nil ?_))))
        refine ej_blk ?_
        exact ej_nx (kk + 1) (by omega) (by
          rcases hkk with ⟨e1, e2, e3, e4⟩ | ⟨e1, e2⟩
          · refine .inl ⟨e1, by omega, by omega, ?_⟩
            have hk : kk.toNat < ds.length := by omega
            have h9 : ¬ ws ≤ prefS ds (kk.toNat + 1) := by
              rcases h57b.2 with h | h
              · exact absurd (by rw [e1]) h
              · exact h
            rw [← e4, frsF_at hk, if_neg h9, show (kk + 1).toNat = kk.toNat + 1 by omega]
          · omega) ⟨rfl, rfl, rfl, rfl, rfl, rfl, rfl, rfl, trivial⟩
      · have h57b := h57
        try simp only [sxb] at h57
        have hex : 0 ≤ kk → kk < ds.length → pe = p → ws ≤ prefS ds (kk.toNat + 1) := fun h1 h2 h3 => by
          refine Classical.byContradiction fun h4 => ?_
          have h5 : ((decide (0 ≤ kk) && decide (kk < (ds.length : Int))) && (((pe : Int) != ((p : Nat) : Int)) || !decide (ws ≤ prefS ds (kk.toNat + 1)))) = true := by simp [h1, h2, h4]
          rw [h57b] at h5
          cases h5
        refine cj_exit (ej_then_exit (ej_then_exit (ej_blk_hit (ej_th (cj_seq (cj_seq ?_))))))
        refine cj_regionG (gj_step (y_move rfl) rfl rfl rfl (gj_step (y_lss rfl rfl) rfl rfl rfl (gj_step (y_move rfl) rfl rfl rfl (gj_g 4 62 66 rfl rfl rfl rfl (fun hg62 => gj_yes rfl rfl rfl (y_move rfl) rfl rfl (gj_yes rfl rfl rfl (y_move rfl) rfl rfl (gj_yes rfl rfl rfl (y_lenA Tryz.underlying50 rfl) rfl rfl (gj_yes rfl rfl rfl (y_eql rfl rfl) rfl rfl (gj_nil rfl))))) (gj_step (y_or rfl rfl rfl) rfl rfl rfl (gj_nil ?_))))))
        refine ej_th ?_
        refine cj_cond rfl (fun h67 => ?_) (fun h67 => ?_)
        · have h67b := h67
          try simp only [sxb] at h67
          have hout : (if pe < (p + 1) then AlaL ds ws (pe : Nat) else []) = out := by
            rw [hou]
            rcases hkk with ⟨e1, e2, e3, e4⟩ | ⟨e1, e2⟩
            · simp only [Bool.or_eq_true, decide_eq_true_eq, beq_iff_eq] at h67b
              have e5 : kk.toNat = ds.length := by omega
              rw [e5, Nat.sub_self] at e4
              rw [if_pos (by omega), if_neg (by omega)]
              exact ala_none e4.symm
            · by_cases h : pe < p
              · rw [if_pos (by omega), if_pos h]
              · rw [if_neg (by omega), if_neg h]
          refine cj_exit (ej_then_exit (ej_blk_hit (ej_th ?_)))
          refine cj_regionG (gj_step (y_add rfl rfl (by omega)) rfl rfl rfl (gj_step (y_move rfl) rfl rfl rfl (gj_nil ?_)))
          refine ej_takes [ow 52 3 encAl Ao co out, ownB b8 (cellsB 97 [.int .i64 wd, .int .i64 ws, .int .i64 wl, .int .i64 wm, .slice A ds.length c, .int .i64 0, .int .i64 1, .int .i64 2, .int .i64 3, .int .i64 4, .int .i64 5, .int .i64 6, .int .i64 7, .int .i64 8, .int .i64 9, .int .i64 10, .int .i64 11, .int .i64 12, .int .i64 13, .int .i64 14, .int .i64 15, .int .i64 16, .int .i64 17, .int .i64 18, .int .i64 19, .int .i64 20, .int .i64 21, .int .i64 22, .int .i64 23]), ownB b5 (cellsB 33 [.int .i64 wd, .int .i64 ws, .int .i64 wl, .int .i64 wm])] ?_
          exact ej_nx (p + 1, Ao, co, out) (by first | omega | (simp only; omega)) ⟨by first | omega | (simp only; omega), hout.symm⟩ ⟨rfl, rfl, rfl, rfl, rfl, rfl, trivial⟩
        · have h67b := h67
          try simp only [sxb] at h67
          simp only [Bool.or_eq_false_iff, decide_eq_false_iff_not, beq_eq_false_iff_ne, ne_eq] at h67b
          have e0 : pe = p ∧ 0 ≤ kk ∧ kk ≤ ds.length ∧ frsF ds ws (ds.length - kk.toNat) kk.toNat = frsF ds ws ds.length 0 := by
            rcases hkk with h | h
            · exact h
            · omega
          obtain ⟨e1, e2, e3, e4⟩ := e0
          obtain ⟨k, rfl⟩ : ∃ k : Nat, kk = k := ⟨kk.toNat, by omega⟩
          have hk : k < ds.length := by omega
          have e5 := hex (by omega) (by omega) e1
          rw [Int.toNat_natCast] at e4 e5
          rw [frsF_at hk, if_pos e5] at e4
          have hou2 : out = [] := by rw [hou, if_neg (by omega)]
          subst hou2
          refine cj_skip (ej_th (cj_seq (cj_region ?_)))
          refine oj_step (y_loadN Tryz.isAgg97 Tryz.sizeOf97 rfl) rfl rfl rfl ?_
          refine oj_step (y_move rfl) rfl rfl rfl ?_
          refine oj_call (X := Option Addr × Nat) (fun x => .tuple #[.slice x.1 (k + 1) x.2, .slice none 0 0, .int .i64 (prefS ds (k + 1))]) (fun _ => []) (fun _ => []) Tryz.call25 rfl (fun w hp => k_sums ds A c wd ws wl wm day pe k w hp.rd hds hpe hwd hday hcap hlm hws hlw hk) rfl ?_
          rintro ⟨As, cs⟩
          dsimp only [List.nil_append, List.cons_append]
          refine oj_step (y_move rfl) rfl rfl rfl ?_
          refine oj_step (y_extract rfl rfl) rfl rfl rfl ?_
          refine oj_step (y_extract rfl rfl) rfl rfl rfl ?_
          refine oj_step (y_extract rfl rfl) rfl rfl rfl ?_
          refine oj_step (y_assign rfl) rfl rfl rfl ?_
          refine oj_step (y_assign rfl) rfl rfl rfl ?_
          refine oj_step (y_assign rfl) rfl rfl rfl ?_
          refine oj_nil ?_
          refine ej_th (cj_region ?_)
          refine oj_step (y_move rfl) rfl rfl rfl ?_
          refine oj_step (y_load1 Tryz.isAgg3 rfl rfl) rfl rfl rfl ?_
          refine oj_step (y_move rfl) rfl rfl rfl ?_
          refine oj_step (y_move rfl) rfl rfl rfl ?_
          refine oj_step (y_build (cs := [.int .i64 (p : Nat), .int .i64 (k : Nat), .int .i64 (prefS ds (k + 1))]) st52 rfl (by kernel_rfl)) rfl rfl rfl ?_
          refine oj_buildSlice (cs := [.int .i64 (p : Nat), .int .i64 (k : Nat), .int .i64 (prefS ds (k + 1))]) [.int .i64 0, .int .i64 0, .int .i64 0] Tryz.underlying45 Tryz.sizeOf52 Tryz.zeroValue52 rfl rfl (by kernel_rfl) (by kernel_rfl) rfl (fun b80 => ?_)
          refine oj_append  el45 (fun _ => rfl) encAl_one rfl rfl rfl (reads_lit [(⟨(p : Nat), (k : Nat), prefS ds (k + 1)⟩ : AlV)] (fun _ => rfl) rfl) (by unfold maxLen; simp only [List.length_cons, List.length_nil]; omega) (by simp only [List.length_cons, List.length_nil]; omega) rfl (fun A81 c81 => ?_)
          refine oj_step (y_assign rfl) rfl rfl rfl ?_
          refine oj_nil ?_
          refine ej_blk (ej_th ?_)
          refine cj_regionG (gj_step (y_add rfl rfl (by omega)) rfl rfl rfl (gj_step (y_move rfl) rfl rfl rfl (gj_nil ?_)))
          refine ej_takes [ow 52 3 encAl A81 c81 ([] ++ [(⟨(p : Nat), (k : Nat), prefS ds (k + 1)⟩ : AlV)]), ownB b8 (cellsB 97 [.int .i64 wd, .int .i64 ws, .int .i64 wl, .int .i64 wm, .slice A ds.length c, .int .i64 0, .int .i64 1, .int .i64 2, .int .i64 3, .int .i64 4, .int .i64 5, .int .i64 6, .int .i64 7, .int .i64 8, .int .i64 9, .int .i64 10, .int .i64 11, .int .i64 12, .int .i64 13, .int .i64 14, .int .i64 15, .int .i64 16, .int .i64 17, .int .i64 18, .int .i64 19, .int .i64 20, .int .i64 21, .int .i64 22, .int .i64 23]), ownB b5 (cellsB 33 [.int .i64 wd, .int .i64 ws, .int .i64 wl, .int .i64 wm])] ?_
          exact ej_nx (p + 1, A81, c81, [] ++ [(⟨(p : Nat), (k : Nat), prefS ds (k + 1)⟩ : AlV)]) (by first | omega | (simp only; omega)) ⟨by first | omega | (simp only; omega), by rw [if_pos (by omega), ala_some e4.symm, e1]; rfl⟩ ⟨rfl, rfl, rfl, rfl, rfl, rfl, trivial⟩
    · have h27b := h27
      try simp only [sxb] at h27
      refine cj_exit (ej_then_exit (ej_then_exit (ej_blk_hit (ej_th (cj_seq ?_)))))
      refine cj_regionG (gj_step (y_move rfl) rfl rfl rfl (gj_step (y_assign rfl) rfl rfl rfl (gj_step (y_assign rfl) rfl rfl rfl (gj_nil ?_))))
      refine ej_th (cj_ret ?_)
      have hp4 : p = 24 := by omega
      subst hp4
      rw [if_pos hpe] at hou
      subst hou
      exact ej_ret2 rfl Tryz.results10 rfl rfl (fun w' hp => ⟨Ao, co, rfl, hp.below, hp.res (fun _ => rfl) (by unfold maxLen; unfold AlaL; split <;> simp)⟩)

end Go.Proofs.YtppfniekcgnmjaaGreatDoor.Ti
namespace Go.Proofs.YtppfniekcgnmjaaGreatDoor.Ti
open Go.Sx Go.RowKit Um
set_option maxRecDepth 20000
theorem k_Alarms (ds : List DlV) (A : Option Addr) (c : Nat) (wd ws wl wm : Int) (day : Int) (pe : Nat) (w : World) (hl : Rd w 3 encDl A ds) (hds : AllAt ds day (pe : Nat)) (hpe : pe < 24) (hday : 0 ≤ day ∧ day ≤ 36500) (hl2 : ds.length ≤ 2) (hne : 0 < ds.length) (hcap : ds.length ≤ c) (hlw : wl = ws) : Calls Tryz.prog 10 #[.slice A ds.length c, .slice none 0 0, .agg #[.int .i64 wd, .int .i64 ws, .int .i64 wl, .int .i64 wm]] w (fun e w' => ∃ A1 c1, e = .returned (.tuple #[.slice A1 (AlmL ds wd ws wl wm (pe : Nat)).length c1, .int .i64 (AlmE wd ws wl wm)]) ∧ Grow w w' ∧ Res w w' 3 encAl A1 (AlmL ds wd ws wl wm (pe : Nat))) := by
  cases hok : watB wd ws wl wm with
  | true =>
    rw [show AlmL ds wd ws wl wm (pe : Nat) = AlaL ds ws (pe : Nat) by rw [AlmL, hok]; rfl, show AlmE wd ws wl wm = 0 by rw [AlmE, hok]; rfl]
    exact k_Alarms_ok ds A c wd ws wl wm day pe w hl hds hpe hday hl2 hne hcap hok hlw
  | false =>
    rw [show AlmL ds wd ws wl wm (pe : Nat) = [] by rw [AlmL, hok]; rfl, show AlmE wd ws wl wm = 83 by rw [AlmE, hok]; rfl]
    exact (k_Alarms_no ds A c wd ws wl wm day pe w hl hds hpe hday hl2 hok).mono fun e w' ⟨h1, h2⟩ => ⟨none, 0, h1, h2, Res.nil⟩

end Go.Proofs.YtppfniekcgnmjaaGreatDoor.Ti
namespace Go.Proofs.YtppfniekcgnmjaaGreatDoor.To
open Go.Sx Go.RowKit
set_option maxRecDepth 20000
theorem el29 : ElemIs Tryz.prog 29 88 3 24 := ⟨⟨_, (.agg #[.int .i64 0, .int .i64 0, .int .i64 0]), Tryz.underlying29, Tryz.type88, by kernel_rfl, by kernel_rfl, by kernel_rfl, by kernel_rfl, by decide⟩⟩
theorem fa31_1 : FieldIs Tryz.prog 31 1 10 1 false := ⟨⟨_, _, Tryz.underlying31, rfl, rfl, Tryz.sizeOf29, Tryz.isAgg29, by decide⟩⟩
theorem st88 : StructIs Tryz.prog 88 [(0, 1), (1, 1), (2, 1)] [.int .i64 0, .int .i64 0, .int .i64 0] := ⟨⟨_, Tryz.underlying88, fun w => by simp [Tryz.sizeOf3], Tryz.zeroValue88⟩⟩
end Go.Proofs.YtppfniekcgnmjaaGreatDoor.To
namespace Go.Proofs.YtppfniekcgnmjaaGreatDoor.To
open Go.Sx Go.RowKit Um
set_option maxRecDepth 20000
theorem k_Ring (n m : Int) (w : World) (hm : m ≤ 4611686018427387904) : Calls Tryz.prog 5 #[.int .i64 n, .int .i64 m] w (fun e w' => e = .returned (.int .i64 (ringI n m)) ∧ Grow w w') := by
  refine enter_pure (args := [.int .i64 n, .int .i64 m]) [] Tryz.func5 rfl (by rw [Tryz.ntmps5]; simp) (by simp) ?_
  refine cj_seq ?_
  refine cj_regionG (gj_step (y_assign rfl) rfl rfl rfl (gj_nil ?_))
  refine ej_th (cj_seq (cj_seq ?_))
  refine cj_regionG (gj_step (y_move rfl) rfl rfl rfl (gj_step (y_leq rfl rfl) rfl rfl rfl (gj_nil ?_)))
  refine ej_th ?_
  refine cj_cond rfl (fun h6 => ?_) (fun h6 => ?_)
  · have h6b := h6
    try simp only [sxb] at h6
    refine cj_seq ?_
    refine cj_regionG (gj_step (y_assign rfl) rfl rfl rfl (gj_nil ?_))
    refine ej_th (cj_ret (ej_then_ret ?_))
    refine ej_ret1 rfl Tryz.results5 rfl (fun w' hp => ⟨?_, hp.below⟩)
    rw [ringI, if_pos h6]
  · have h6b := h6
    try simp only [sxb] at h6
    refine cj_skip (ej_th (cj_seq ?_))
    refine cj_regionG (gj_step (y_move rfl) rfl rfl rfl (gj_step (y_move rfl) rfl rfl rfl (gj_step (y_remw rfl rfl (by omega)) rfl rfl rfl (gj_step (y_move rfl) rfl rfl rfl (gj_step (y_add rfl rfl (by have h1 := Int.tmod_lt_of_pos n (show 0 < m by omega); have h2 := Int.lt_tmod_of_pos n (show 0 < m by omega); omega)) rfl rfl rfl (gj_step (y_move rfl) rfl rfl rfl (gj_step (y_remw rfl rfl (by omega)) rfl rfl rfl (gj_step (y_assign rfl) rfl rfl rfl (gj_nil ?_)))))))))
    refine ej_th (cj_ret ?_)
    refine ej_ret1 rfl Tryz.results5 rfl (fun w' hp => ⟨?_, hp.below⟩)
    rw [ringI, if_neg (by omega)]

theorem k_From (lo n hi : Int) (w : World)  : Calls Tryz.prog 8 #[.int .i64 lo, .int .i64 n, .int .i64 hi] w (fun e w' => e = .returned (.bool (btw lo n hi)) ∧ Grow w w') := by
  refine enter_pure (args := [.int .i64 lo, .int .i64 n, .int .i64 hi]) [] Tryz.func8 rfl (by rw [Tryz.ntmps8]; simp) (by simp) ?_
  refine cj_seq ?_
  refine cj_regionG (gj_step (y_assign rfl) rfl rfl rfl (gj_nil ?_))
  refine ej_th (cj_seq ?_)
  refine cj_regionG (gj_step (y_move rfl) rfl rfl rfl (gj_step (y_move rfl) rfl rfl rfl (gj_step (y_leq rfl rfl) rfl rfl rfl (gj_step (y_move rfl) rfl rfl rfl (gj_g 3 10 13 rfl rfl rfl rfl (fun hg10 => gj_yes rfl rfl rfl (y_move rfl) rfl rfl (gj_yes rfl rfl rfl (y_move rfl) rfl rfl (gj_yes rfl rfl rfl (y_leq rfl rfl) rfl rfl (gj_nil rfl)))) (gj_step (y_and rfl rfl rfl) rfl rfl rfl (gj_step (y_assign rfl) rfl rfl rfl (gj_nil ?_))))))))
  refine ej_th (cj_ret ?_)
  exact ej_ret1 rfl Tryz.results8 rfl (fun w' hp => ⟨rfl, hp.below⟩)

def payA (t : Int) (ss : List Int) : List Ln.Act1 := ss.map fun s => ⟨t, 1, s⟩
theorem payA_take {t : Int} {ss : List Int} {k : Nat} {x : Int} (h : ss[k]? = some x) : payA t (ss.take (k + 1)) = payA t (ss.take k) ++ [⟨t, 1, x⟩] := Um.map_take _ h

theorem k_paying (d : Ln.Deal) (Ac : Option Addr) (cc : Nat) (l : List Ln.Act1) (Al : Option Addr) (cl : Nat) (t : Int) (ss : List Int) (As : Option Addr) (cs : Nat) (w : World) (hl : Rd w 3 Ln.encAct Al l) (hs : Rd w 1 enInt As ss) (hsz : l.length * 24 ≤ 140737488351232) (hs2 : ss.length ≤ 2) : Calls Tryz.prog 7 #[.agg #[.int .i64 d.lr, .int .i64 d.lc, .int .i64 d.tr, .int .i64 d.tf, .int .i64 d.te, .int .i64 d.tt, .int .i64 d.tg, .slice Ac d.closed.length cc, .int .i64 d.start, .int .i64 d.sum, .slice Al l.length cl], .int .i64 t, .slice As ss.length cs] w (fun e w' => ∃ A c, e = .returned (.slice A (l ++ payA t ss).length c) ∧ Grow w w' ∧ Res w w' 3 Ln.encAct A (l ++ payA t ss)) := by
  refine enter_pure (args := [.agg #[.int .i64 d.lr, .int .i64 d.lc, .int .i64 d.tr, .int .i64 d.tf, .int .i64 d.te, .int .i64 d.tt, .int .i64 d.tg, .slice Ac d.closed.length cc, .int .i64 d.start, .int .i64 d.sum, .slice Al l.length cl], .int .i64 t, .slice As ss.length cs]) [sl (fun b => b < w.heap.size) 3 Ln.encAct Al l, sl (fun b => b < w.heap.size) 1 enInt As ss] Tryz.func7 rfl (by rw [Tryz.ntmps7]; simp) (fun g hg => by simp at hg; rcases hg with rfl | rfl; exact ⟨hl, fun _ h => h⟩; exact ⟨hs, fun _ h => h⟩) ?_
  refine cj_seq (cj_region ?_)
  refine oj_box rfl rfl rfl (fun b3 => ?_)
  refine oj_step (y_assign rfl) rfl rfl rfl ?_
  refine oj_nil ?_
  refine ej_th (cj_seq (cj_region ?_))
  refine oj_buildSlice (cs := []) [] Tryz.underlying29 Tryz.sizeOf88 Tryz.zeroValue88 rfl rfl (by kernel_rfl) (by kernel_rfl) rfl (fun b9 => ?_)
  refine oj_litOw (b := b9) (e := 88) (c := 0) (sz := 3) (enc := Ln.encAct) [] rfl rfl rfl (by unfold maxLen; simp) ?_
  refine oj_step (y_fa fa31_1 rfl) rfl rfl rfl ?_
  refine oj_step (y_load1 Tryz.isAgg29 rfl rfl) rfl rfl rfl ?_
  refine oj_append (xs := ([] : List Ln.Act1)) (c := 0) el29 (fun _ => rfl) Ln.encAct_one rfl rfl rfl (reads_sl) (by unfold maxLen; simp only [List.length_nil]; omega) (by simp only [List.length_nil]; omega) rfl (fun A12 c12 => ?_)
  refine oj_step (y_assign rfl) rfl rfl rfl ?_
  refine oj_nil ?_
  refine ej_th (cj_seq (cj_seq ?_))
  rw [show (([] : List Ln.Act1) ++ l) = l ++ payA t (ss.take 0) by simp [payA]]
  refine cj_regionG (gj_step (y_assign rfl) rfl rfl rfl (gj_nil ?_))
  refine ej_th (cj_block ?_)
  skip
  refine cj_lpi (X := Nat × Option Addr × Nat) [(1, _), (2, _), (6, _)] (fun ⟨k, A1, c1⟩ => k ≤ ss.length) (fun ⟨k, A1, c1⟩ => [(8, .int .i64 (k : Nat)), (7, .slice A1 (l ++ payA t (ss.take k)).length c1)]) (fun ⟨k, A1, c1⟩ => [ow 88 3 Ln.encAct A1 c1 (l ++ payA t (ss.take k)), ownB b3 (cellsB 31 [.int .i64 d.lr, .int .i64 d.lc, .int .i64 d.tr, .int .i64 d.tf, .int .i64 d.te, .int .i64 d.tt, .int .i64 d.tg, .slice Ac d.closed.length cc, .int .i64 d.start, .int .i64 d.sum, .slice Al l.length cl])]) (fun ⟨k, A1, c1⟩ => [sl (fun b => b < w.heap.size) 3 Ln.encAct Al l, sl (fun b => b < w.heap.size) 1 enInt As ss]) (fun ⟨k, A1, c1⟩ => ss.length - k) (0, A12, c12) (Nat.zero_le _) ⟨rfl, rfl, rfl, rfl, rfl, trivial⟩ ?_
  rintro ⟨k, A1, c1⟩ hk
  dsimp only [List.cons_append, List.nil_append]
  refine cj_seq (cj_seq ?_)
  refine cj_regionG (gj_step (y_move rfl) rfl rfl rfl (gj_step (y_move rfl) rfl rfl rfl (gj_step (y_lenA Tryz.underlying26 rfl) rfl rfl rfl (gj_step (y_lss rfl rfl) rfl rfl rfl (gj_nil ?_)))))
  refine ej_th ?_
  refine cj_cond rfl (fun h16 => ?_) (fun h16 => ?_)
  · have h16b := h16
    try simp only [sxb] at h16
    obtain ⟨x, hx⟩ : ∃ x, ss[k]? = some x := ⟨_, List.getElem?_eq_getElem (by omega)⟩
    refine cj_skip (ej_th (cj_seq (cj_block (cj_region ?_))))
    refine oj_step (y_move rfl) rfl rfl rfl ?_
    refine oj_step (y_move rfl) rfl rfl rfl ?_
    refine oj_step (y_move rfl) rfl rfl rfl ?_
    refine oj_step (y_move rfl) rfl rfl rfl ?_
    refine oj_step (y_ixR (reads_sl) Tryz.underlying26 Tryz.sizeOf3 rfl rfl (⟨by omega, by omega⟩)) rfl rfl rfl ?_
    refine oj_step (y_ld0 (reads_sl) Tryz.isAgg3 rfl (hx) rfl) rfl rfl rfl ?_
    refine oj_step (y_build (cs := [.int .i64 t, .int .i64 1, .int .i64 x]) st88 rfl (by kernel_rfl)) rfl rfl rfl ?_
    refine oj_buildSlice (cs := [.int .i64 t, .int .i64 1, .int .i64 x]) [.int .i64 0, .int .i64 0, .int .i64 0] Tryz.underlying29 Tryz.sizeOf88 Tryz.zeroValue88 rfl rfl (by kernel_rfl) (by kernel_rfl) rfl (fun b26 => ?_)
    refine oj_append  el29 (fun _ => rfl) Ln.encAct_one rfl rfl rfl (reads_lit [(⟨t, 1, x⟩ : Ln.Act1)] (fun _ => rfl) rfl) (by unfold maxLen; simp only [payA, List.length_append, List.length_map, List.length_take, List.length_cons, List.length_nil]; omega) (by simp only [payA, List.length_append, List.length_map, List.length_take, List.length_cons, List.length_nil]; omega) rfl (fun A27 c27 => ?_)
    refine oj_step (y_assign rfl) rfl rfl rfl ?_
    refine oj_nil ?_
    refine ej_blk (ej_th ?_)
    refine cj_regionG (gj_step (y_move rfl) rfl rfl rfl (gj_step (y_add rfl rfl (by omega)) rfl rfl rfl (gj_step (y_assign rfl) rfl rfl rfl (gj_nil ?_))))
    rw [List.append_assoc, ← payA_take hx]
    refine ej_takes [ow 88 3 Ln.encAct A27 c27 (l ++ payA t (ss.take (k + 1))), ownB b3 (cellsB 31 [.int .i64 d.lr, .int .i64 d.lc, .int .i64 d.tr, .int .i64 d.tf, .int .i64 d.te, .int .i64 d.tt, .int .i64 d.tg, .slice Ac d.closed.length cc, .int .i64 d.start, .int .i64 d.sum, .slice Al l.length cl])] ?_
    exact ej_nx (k + 1, A27, c27) (by first | omega | (simp only; omega)) (by first | omega | (simp only; omega)) ⟨rfl, rfl, rfl, rfl, rfl, trivial⟩
  · have h16b := h16
    try simp only [sxb] at h16
    refine cj_exit (ej_then_exit (ej_then_exit (ej_blk_hit (ej_th (cj_seq ?_)))))
    refine cj_regionG (gj_step (y_move rfl) rfl rfl rfl (gj_step (y_assign rfl) rfl rfl rfl (gj_nil ?_)))
    refine ej_th (cj_ret ?_)
    have hks : k = ss.length := by omega
    subst hks
    rw [List.take_of_length_le (Nat.le_refl _)]
    exact ej_ret1 rfl Tryz.results7 rfl (fun w' hp => ⟨A1, c1, rfl, hp.below, hp.res (fun _ => rfl) (by unfold maxLen; simp only [payA, List.length_append, List.length_map]; omega)⟩)

end Go.Proofs.YtppfniekcgnmjaaGreatDoor.To
namespace Go.Proofs.YtppfniekcgnmjaaGreatDoor.Ln
open Go.Sx Go.RowKit

/-- the same loan, but for renewals -/
structure Eqv (x y : Ln) : Prop where
  days : x.days = y.days
  op : x.op = y.op
  held : x.held = y.held
  day : x.day = y.day
  pr : x.pr = y.pr
  all : x.all = y.all
  dear : x.dear = y.dear
theorem Eqv.step {d d' : Deal} (hd : d'.closed = d.closed ∧ d'.tf = d.tf) {x y : Ln} (h : Eqv x y) : Eqv (stepDay d' x) (stepDay d y) := by
  obtain ⟨h2, h3, h4, h1, h6, h7, h8⟩ := h
  obtain ⟨a1, _, _, a4, _, a6, a7, a8, a9, a10⟩ := stepDay_parts d' x
  obtain ⟨b1, _, _, b4, _, b6, b7, b8, b9, b10⟩ := stepDay_parts d y
  have hc : countsB d' x (x.day + 1) = countsB d y (y.day + 1) := by unfold countsB; rw [h1, h3, h4, hd.1]
  rw [hc] at a8 a9 a10
  refine ⟨by rw [a9, b9, h2], by rw [a4, b4, h3], by rw [a6, b6, h4], by rw [a7, b7, h1], by rw [a1, b1, h6], by rw [a8, b8, h7, h6], by rw [a10, b10, hd.2, h2, h8, h6]⟩
theorem Eqv.go {d d' : Deal} (hd : d'.closed = d.closed ∧ d'.tf = d.tf) : ∀ (k : Nat) {x y : Ln}, Eqv x y → Eqv (goN d' k x) (goN d k y)
  | 0, _, _, h => h
  | k + 1, _, _, h => Eqv.go hd k (h.step hd)
/-! ### A payment in two parts -/
theorem acts_cut {t p q n : Int} (h1 : okKind 1 p = true) (h2 : okKind 1 q = true) : ∀ (l : List Act1) (last pk : Int), actsF last pk (l ++ [⟨t, 1, n⟩]) = true → actsF last pk (l ++ [⟨t, 1, p⟩, ⟨t, 1, q⟩]) = true
  | [], last, pk, h => by
    simp only [List.nil_append, actsF, okAct, Bool.and_true, Bool.and_eq_true] at h ⊢
    obtain ⟨⟨_, h4⟩, h5⟩ := h
    refine ⟨⟨⟨h1, h4⟩, h5⟩, ⟨h2, ?_⟩, by decide⟩
    simp only [btw, Bool.and_eq_true, decide_eq_true_eq] at h4 ⊢
    exact ⟨Int.le_refl _, h4.2⟩
  | a :: l, last, pk, h => by
    rw [List.cons_append, actsF, Bool.and_eq_true] at h ⊢
    exact ⟨h.1, acts_cut h1 h2 l _ _ h.2⟩
theorem acts_last {t n : Int} : ∀ (l : List Act1) (last pk : Int), actsF last pk (l ++ [⟨t, 1, n⟩]) = true → 1 ≤ n ∧ n ≤ 1073741824
  | [], last, pk, h => by
    simp only [List.nil_append, actsF, okAct, Bool.and_true, Bool.and_eq_true] at h
    have h1 : btw 1 n 1073741824 = true := h.1.1
    simpa [btw] using h1
  | a :: l, last, pk, h => by
    rw [List.cons_append, actsF, Bool.and_eq_true] at h
    exact acts_last l _ _ h.2
end Go.Proofs.YtppfniekcgnmjaaGreatDoor.Ln
namespace Go.Proofs.YtppfniekcgnmjaaGreatDoor.To
open Go.Sx Go.RowKit
open Go.Proofs.YtppfniekcgnmjaaGreatDoor.Ln in
/-- paying in two parts on one day, whichever -/
theorem two_at {d : Deal} {l : List Act1} {t p q : Int} (hp : 1 ≤ p) (hq : 1 ≤ q) (h : RunE d (l ++ [⟨t, 1, p + q⟩]) = 0) (hlen : l.length + 2 ≤ 32) :
    RunE d (l ++ [⟨t, 1, p⟩, ⟨t, 1, q⟩]) = 0 ∧ exec d (openL d) (l ++ [⟨t, 1, p⟩, ⟨t, 1, q⟩]) = exec d (openL d) (l ++ [⟨t, 1, p + q⟩]) := by
  obtain ⟨ha, hf, _, _, _⟩ := run_ok h
  obtain ⟨hb, hac⟩ := askOk_parts ha
  have hd := badDeal_no hb
  have hac0 := hac
  rw [actsOk, Bool.and_eq_true] at hac0
  have hpq := acts_last _ _ _ hac0.1
  have hk : ∀ n : Int, 1 ≤ n → n ≤ 1073741824 → okKind 1 n = true := fun n h1 h2 => by
    show btw 1 n 1073741824 = true
    simp only [btw, Bool.and_eq_true, decide_eq_true_eq]; exact ⟨h1, h2⟩
  have hac2 := acts_cut (hk p hp (by omega)) (hk q hq (by omega)) l _ _ hac0.1
  have ha2 : askOk d (l ++ [⟨t, 1, p⟩, ⟨t, 1, q⟩]) = true := by
    rw [askOk, hb, actsOk, hac2]
    simp; omega
  obtain ⟨hf1, hf2⟩ := (fine_app d l _ _).1 hf
  obtain ⟨hd2, hm, hln⟩ := ok_parts ha
  have hg0 := (exec_good hd l _ (open_good hd) (by simp only [openL]; omega) (fun a h => hm a (by simp [h]))).1
  have htm : t ≤ 36500 := (hm ⟨t, 1, p + q⟩ (by simp)).2
  have hg := toL_good hd hg0 htm
  obtain ⟨y, hy⟩ : ∃ y, y = exec d (openL d) l := ⟨_, rfl⟩
  rw [← hy] at hf2 hg
  obtain ⟨x, hx⟩ : ∃ x, x = toL d y t := ⟨_, rfl⟩
  have hday : t ≤ x.day := by rw [hx]; exact (toL_ge d y t).2
  rw [← hx] at hg
  have hst : toL d x t = x := toL_stay d x hday
  obtain ⟨h1, h2, _⟩ := hf2
  simp only [← hx] at h1 h2
  have hE : payE x (p + q) = 0 := h2
  have hdue := hg.due
  have hprn := hg.ok.pr
  have hlt : ¬ x.ch - x.pd + x.pr ≤ p + q := fun hle => by unfold payE at hE; rw [if_pos hle] at hE; cases hE
  have e1 : payE x p = 0 := by unfold payE; rw [if_neg (by omega)]
  have e2 : payL x p = { x with pd := x.pd + min p (x.ch - x.pd), pr := x.pr - max 0 (p - (x.ch - x.pd)) } := by unfold payL; rw [if_neg (by omega)]
  have e3 : payL x (p + q) = { x with pd := x.pd + min (p + q) (x.ch - x.pd), pr := x.pr - max 0 (p + q - (x.ch - x.pd)) } := by unfold payL; rw [if_neg hlt]
  have hst2 : toL d (payL x p) t = payL x p := toL_stay d _ (by rw [e2]; exact hday)
  have e4 : payE (payL x p) q = 0 := by rw [e2]; unfold payE; rw [if_neg (by simp only; omega)]
  have e5 : payL (payL x p) q = payL x (p + q) := by
    rw [e3, e2]
    unfold payL
    rw [if_neg (by simp only; omega)]
    simp only [Ln.mk.injEq, true_and, and_true]
    omega
  have hov : overB d (payL x p) = false := by rw [e2]; exact h1
  have hfine : fine d y [⟨t, 1, p⟩, ⟨t, 1, q⟩] := by
    refine ⟨by simp only [← hx]; exact h1, by simp only [← hx]; exact e1, ?_, ?_, trivial⟩
    · show overB d (toL d (payL (toL d y t) p) t) = false
      rw [← hx, hst2]; exact hov
    · show payE (toL d (payL (toL d y t) p) t) q = 0
      rw [← hx, hst2]; exact e4
  refine ⟨run_of ha2 ((fine_app d l _ _).2 ⟨hf1, by rw [← hy]; exact hfine⟩), ?_⟩
  rw [exec_app, exec_app, ← hy]
  show payL (toL d (payL (toL d y t) p) t) q = payL (toL d y t) (p + q)
  rw [← hx, hst2, e5]
open Go.Proofs.YtppfniekcgnmjaaGreatDoor.Ln in
theorem run_len {d : Deal} {l : List Act1} (h : RunE d l = 0) : (RunO d l).length = l.length := by
  obtain ⟨_, _, h1, _⟩ := run_ok h
  rw [h1, outs_len]
open Go.Proofs.YtppfniekcgnmjaaGreatDoor.Ln in
theorem outs_getl (d : Deal) : ∀ (l : List Act1) (x : Ln), l ≠ [] → (outs d x l)[l.length - 1]? = some (exec d x l).acc
  | [], _, h => absurd rfl h
  | [a], x, _ => rfl
  | a :: b :: l, x, _ => by
    rw [outs, exec, show (a :: b :: l).length - 1 = (b :: l).length - 1 + 1 by simp, List.getElem?_cons_succ]
    exact outs_getl d (b :: l) _ (by simp)
open Go.Proofs.YtppfniekcgnmjaaGreatDoor.Ln in
/-- how the two accounts stand at the end -/
theorem two_last {d : Deal} {l : List Act1} {t p q : Int} (hp : 1 ≤ p) (hq : 1 ≤ q) (h : RunE d (l ++ [⟨t, 1, p + q⟩]) = 0) (hlen : l.length + 2 ≤ 32) :
    RunE d (l ++ [⟨t, 1, p⟩, ⟨t, 1, q⟩]) = 0 ∧ (RunO d (l ++ [⟨t, 1, p + q⟩])).length = l.length + 1 ∧ (RunO d (l ++ [⟨t, 1, p⟩, ⟨t, 1, q⟩])).length = l.length + 2 ∧
    ∃ a, (RunO d (l ++ [⟨t, 1, p + q⟩]))[l.length]? = some a ∧ (RunO d (l ++ [⟨t, 1, p⟩, ⟨t, 1, q⟩]))[l.length + 1]? = some a := by
  obtain ⟨h1, h2⟩ := two_at hp hq h hlen
  refine ⟨h1, by rw [run_len h]; simp, by rw [run_len h1]; simp, (exec d (openL d) (l ++ [⟨t, 1, p + q⟩])).acc, ?_, ?_⟩
  · obtain ⟨_, _, h3, _⟩ := run_ok h
    have := outs_getl d (l ++ [⟨t, 1, p + q⟩]) (openL d) (by simp)
    rw [h3]; simpa using this
  · obtain ⟨_, _, h3, _⟩ := run_ok h1
    have := outs_getl d (l ++ [⟨t, 1, p⟩, ⟨t, 1, q⟩]) (openL d) (by simp)
    rw [h3, ← h2]; simpa using this
open Go.Proofs.YtppfniekcgnmjaaGreatDoor.Ln in
theorem runO_le (d : Deal) (l : List Act1) : (RunO d l).length ≤ l.length := by
  by_cases h : RunE d l = 0
  · rw [run_len h]; exact Nat.le_refl _
  · have e : RunO d l = [] := by
      unfold RunO
      rw [if_neg]
      intro hc
      rw [Bool.and_eq_true, beq_iff_eq] at hc
      exact h (by rw [RunE, if_pos hc.1]; exact hc.2)
    rw [e]; exact Nat.zero_le _
end Go.Proofs.YtppfniekcgnmjaaGreatDoor.To
namespace Go.Proofs.YtppfniekcgnmjaaGreatDoor.To
open Go.Sx Go.RowKit
set_option maxRecDepth 20000
theorem eq52 (a0 b0 : Int) (a1 b1 : Int) (a2 b2 : Int) (x y : Operand) (w : World) : (do eqGuard .eql 52 x y (.agg #[.int .i64 a0, .int .i64 a1, .int .i64 a2]) (.agg #[.int .i64 b0, .int .i64 b1, .int .i64 b2]); binOp .eql 52 (.agg #[.int .i64 a0, .int .i64 a1, .int .i64 a2]) (.agg #[.int .i64 b0, .int .i64 b1, .int .i64 b2]) : Sem Value).run Tryz.prog w = .ok (.bool ((a0 == b0) && (a1 == b1) && (a2 == b2))) w := by
  simp [go_sem, Tryz.eqGuardType52, Tryz.stoodInHeld52, Tryz.underlying52, Tryz.underlying3]
  try ((repeat' split) <;> simp_all)
theorem fa28_3 : FieldIs Tryz.prog 28 3 8 1 false := ⟨⟨_, _, Tryz.underlying28, rfl, rfl, Tryz.sizeOf3, Tryz.isAgg3, by decide⟩⟩
theorem fa31_0 : FieldIs Tryz.prog 31 0 0 10 true := ⟨⟨_, _, Tryz.underlying31, rfl, rfl, Tryz.sizeOf28, Tryz.isAgg28, by decide⟩⟩
theorem fa33_1 : FieldIs Tryz.prog 33 1 1 1 false := ⟨⟨_, _, Tryz.underlying33, rfl, rfl, Tryz.sizeOf3, Tryz.isAgg3, by decide⟩⟩
theorem fa33_2 : FieldIs Tryz.prog 33 2 2 1 false := ⟨⟨_, _, Tryz.underlying33, rfl, rfl, Tryz.sizeOf3, Tryz.isAgg3, by decide⟩⟩
theorem fa52_0 : FieldIs Tryz.prog 52 0 0 1 false := ⟨⟨_, _, Tryz.underlying52, rfl, rfl, Tryz.sizeOf3, Tryz.isAgg3, by decide⟩⟩
theorem fa52_2 : FieldIs Tryz.prog 52 2 2 1 false := ⟨⟨_, _, Tryz.underlying52, rfl, rfl, Tryz.sizeOf3, Tryz.isAgg3, by decide⟩⟩
theorem ne42 (a0 b0 : Int) (a1 b1 : Int) (a2 b2 : Int) (a3 b3 : Int) (a4 b4 : Bool) (x y : Operand) (w : World) : (do eqGuard .neq 42 x y (.agg #[.int .i64 a0, .int .i64 a1, .int .i64 a2, .int .i64 a3, .bool a4]) (.agg #[.int .i64 b0, .int .i64 b1, .int .i64 b2, .int .i64 b3, .bool b4]); binOp .neq 42 (.agg #[.int .i64 a0, .int .i64 a1, .int .i64 a2, .int .i64 a3, .bool a4]) (.agg #[.int .i64 b0, .int .i64 b1, .int .i64 b2, .int .i64 b3, .bool b4]) : Sem Value).run Tryz.prog w = .ok (.bool (!((a0 == b0) && (a1 == b1) && (a2 == b2) && (a3 == b3) && (a4 == b4)))) w := by
  simp [go_sem, Tryz.eqGuardType42, Tryz.stoodInHeld42, Tryz.underlying42, Tryz.underlying3, Tryz.underlying4]
  try ((repeat' split) <;> simp_all)
theorem st49 : StructIs Tryz.prog 49 [(0, 1), (1, 1), (2, 1)] [.int .i64 0, .int .i64 0, .int .i64 0] := ⟨⟨_, Tryz.underlying49, fun w => by simp [Tryz.sizeOf3], Tryz.zeroValue49⟩⟩
theorem st52 : StructIs Tryz.prog 52 [(0, 1), (1, 1), (2, 1)] [.int .i64 0, .int .i64 0, .int .i64 0] := ⟨⟨_, Tryz.underlying52, fun w => by simp [Tryz.sizeOf3], Tryz.zeroValue52⟩⟩
end Go.Proofs.YtppfniekcgnmjaaGreatDoor.To
namespace Go.Proofs.YtppfniekcgnmjaaGreatDoor.To
open Go.Sx Go.RowKit Um
set_option maxRecDepth 20000
set_option maxHeartbeats 8000000 in
theorem k_TopCutPay (d : Ln.Deal) (Ac : Option Addr) (cc : Nat) (l : List Ln.Act1) (Al : Option Addr) (cl : Nat) (wd ws wl wm n0 n1 n2 n3 : Int) (w : World) (hc : Rd w 1 enInt Ac d.closed) (hl : Rd w 3 Ln.encAct Al l) (hG : Gl w 0 Ln.WAYS) (hsz : l.length * 24 ≤ 140737488351232) : Calls Tryz.prog 3 #[.agg #[.int .i64 d.lr, .int .i64 d.lc, .int .i64 d.tr, .int .i64 d.tf, .int .i64 d.te, .int .i64 d.tt, .int .i64 d.tg, .slice Ac d.closed.length cc, .int .i64 d.start, .int .i64 d.sum, .slice Al l.length cl], .agg #[.int .i64 wd, .int .i64 ws, .int .i64 wl, .int .i64 wm], .agg #[.int .i64 n0, .int .i64 n1, .int .i64 n2, .int .i64 n3]] w (fun e w' => e = .returned (.bool true) ∧ Grow w w') := by
  refine enter_pure (args := [.agg #[.int .i64 d.lr, .int .i64 d.lc, .int .i64 d.tr, .int .i64 d.tf, .int .i64 d.te, .int .i64 d.tt, .int .i64 d.tg, .slice Ac d.closed.length cc, .int .i64 d.start, .int .i64 d.sum, .slice Al l.length cl], .agg #[.int .i64 wd, .int .i64 ws, .int .i64 wl, .int .i64 wm], .agg #[.int .i64 n0, .int .i64 n1, .int .i64 n2, .int .i64 n3]]) [sl (fun b => b < w.heap.size) 1 enInt Ac d.closed, sl (fun b => b < w.heap.size) 3 Ln.encAct Al l, gl 0 Ln.WAYS] Tryz.func3 rfl (by rw [Tryz.ntmps3]; simp) (fun g hg => by simp at hg; rcases hg with rfl | rfl | rfl; exact ⟨hc, fun _ h => h⟩; exact ⟨hl, fun _ h => h⟩; exact ⟨hG.1, fun b hb => by have : b = 0 := hb; rw [this]; exact hG.2⟩) ?_
  refine cj_seq (cj_region ?_)
  refine oj_box rfl rfl rfl (fun b3 => ?_)
  refine oj_box rfl rfl rfl (fun b4 => ?_)
  refine oj_box rfl rfl rfl (fun b5 => ?_)
  refine oj_step (y_assign rfl) rfl rfl rfl ?_
  refine oj_nil ?_
  refine ej_th (cj_seq (cj_region ?_))
  refine oj_step (y_fa fa33_1 rfl) rfl rfl rfl ?_
  refine oj_step (y_load1 Tryz.isAgg3 rfl rfl) rfl rfl rfl ?_
  refine oj_step (y_fa fa33_2 rfl) rfl rfl rfl ?_
  refine oj_store rfl rfl rfl rfl Tryz.sizeOf3 rfl ?_
  refine oj_nil ?_
  refine ej_th (cj_seq ?_)
  have hb0 := ringI_bd n0 400 (by omega)
  have hb1 := ringI_bd n1 1048576 (by omega)
  have hb3 := ringI_bd n3 24 (by omega)
  refine cj_draw (by kernel_rfl) (by kernel_rfl) ?_
  refine gj_step (y_fa0 fa31_0 rfl) rfl rfl rfl (gj_step (y_fa fa28_3 rfl) rfl rfl rfl (gj_step (y_load1 Tryz.isAgg3 rfl rfl) rfl rfl rfl (gj_step (y_ixArrC 0 Tryz.underlying34 Tryz.sizeOf3 rfl rfl (by decide) (by decide)) rfl rfl rfl (gj_step (y_load1 Tryz.isAgg3 rfl rfl) rfl rfl rfl (?_)))))
  refine gj_step (y_call Tryz.call5 rfl (fun w hp => k_Ring _ _ w (by omega))) rfl rfl rfl ?_
  refine gj_step (y_addw rfl rfl) rfl rfl rfl (gj_step (y_assign rfl) rfl rfl rfl (?_))
  refine gj_nil ?_
  refine ej_th (cj_seq ?_)
  generalize IntKind.i64.wrap (d.start + ringI n0 400) = t
  refine cj_regionG ?_
  refine gj_step (y_ixArrC 1 Tryz.underlying34 Tryz.sizeOf3 rfl rfl (by decide) (by decide)) rfl rfl rfl (gj_step (y_load1 Tryz.isAgg3 rfl rfl) rfl rfl rfl (?_))
  refine gj_step (y_call Tryz.call5 rfl (fun w hp => k_Ring _ _ w (by omega))) rfl rfl rfl ?_
  refine gj_step (y_add rfl rfl (by omega)) rfl rfl rfl (gj_step (y_assign rfl) rfl rfl rfl (?_))
  refine gj_nil ?_
  refine ej_th (cj_seq ?_)
  obtain ⟨pay, hpay⟩ : ∃ pay, pay = 2 + ringI n1 1048576 := ⟨_, rfl⟩
  rw [← hpay]
  have hb2 := ringI_bd n2 (pay - 1) (by omega)
  refine cj_regionG ?_
  refine gj_step (y_ixArrC 2 Tryz.underlying34 Tryz.sizeOf3 rfl rfl (by decide) (by decide)) rfl rfl rfl (gj_step (y_load1 Tryz.isAgg3 rfl rfl) rfl rfl rfl (gj_step (y_move rfl) rfl rfl rfl (gj_step (y_sub rfl rfl (by omega)) rfl rfl rfl (?_))))
  refine gj_step (y_call Tryz.call5 rfl (fun w hp => k_Ring _ _ w (by omega))) rfl rfl rfl ?_
  refine gj_step (y_add rfl rfl (by omega)) rfl rfl rfl (gj_step (y_assign rfl) rfl rfl rfl (?_))
  refine gj_nil ?_
  refine ej_th (cj_seq ?_)
  obtain ⟨part, hpart⟩ : ∃ part, part = 1 + ringI n2 (pay - 1) := ⟨_, rfl⟩
  rw [← hpart]
  refine cj_regionG ?_
  refine gj_step (y_ixArrC 3 Tryz.underlying34 Tryz.sizeOf3 rfl rfl (by decide) (by decide)) rfl rfl rfl (gj_step (y_load1 Tryz.isAgg3 rfl rfl) rfl rfl rfl (?_))
  refine gj_step (y_call Tryz.call5 rfl (fun w hp => k_Ring _ _ w (by omega))) rfl rfl rfl ?_
  refine gj_step (y_assign rfl) rfl rfl rfl (?_)
  refine gj_nil ?_
  refine ej_th (cj_seq ?_)
  obtain ⟨pe, hpe0⟩ : ∃ pe : Nat, ringI n3 24 = pe := ⟨(ringI n3 24).toNat, by omega⟩
  rw [hpe0]
  have hpe : pe < 24 := by omega
  have hpb : 1 ≤ part ∧ part < pay ∧ pay ≤ 1048577 := by omega
  refine cj_plan 15 (by kernel_rfl) (by kernel_rfl) ?_
  refine pl_y 0 rfl (y_fa0 fa31_0 rfl) rfl rfl rfl rfl (by kernel_rfl) ?_
  refine pl_y 1 rfl (y_loadN Tryz.isAgg28 Tryz.sizeOf28 rfl) rfl rfl rfl rfl (by kernel_rfl) ?_
  refine pl_y 2 rfl (y_loadN Tryz.isAgg31 Tryz.sizeOf31 rfl) rfl rfl rfl rfl (by kernel_rfl) ?_
  refine pl_y 3 rfl (y_move rfl) rfl rfl rfl rfl (by kernel_rfl) ?_
  refine pl_y 4 rfl (y_move rfl) rfl rfl rfl rfl (by kernel_rfl) ?_
  refine pl_w1 5 (by kernel_rfl) rfl rfl (pl_fire rfl rfl rfl (by kernel_rfl) ?_)
  refine oj_buildSlice (cs := [.int .i64 pay]) [.int .i64 0] Tryz.underlying26 Tryz.sizeOf3 Tryz.zeroValue3 rfl rfl (by kernel_rfl) (by kernel_rfl) rfl (fun b48 => ?_)
  refine oj_nil ?_
  refine ej_pl (lt_w (by kernel_rfl) (lt_y (y_move rfl) rfl (lt_y (y_loadN Tryz.isAgg31 Tryz.sizeOf31 rfl) rfl (lt_y (y_loadN Tryz.isAgg28 Tryz.sizeOf28 rfl) rfl (lt_y (y_fa0 fa31_0 rfl) rfl (lt_nil)))))) ?_
  refine pl_w1 6 (by kernel_rfl) rfl rfl (pl_fire rfl rfl rfl (by kernel_rfl) ?_)
  refine oj_callS (fun A c => .slice A (l ++ payA t [pay]).length c) 3 Ln.encAct (l ++ payA t [pay]) Tryz.call7 rfl (fun w hp => by
    have h1 : Rd w 1 enInt (some ⟨b48, 0, none⟩) [pay] := (hp.rdLit (b := b48) (sz := 1) (enc := enInt) [pay] (fun _ => rfl) rfl (by unfold maxLen; simp))
    have h := k_paying d Ac cc l Al cl t [pay] (some ⟨b48, 0, none⟩) 1 w hp.rd h1 hsz (by simp)
    exact h) rfl (fun A49 c49 fp49 hfp49 => ?_)
  refine oj_nil ?_
  refine ej_pl (lt_y (y_move rfl) rfl (lt_w (by kernel_rfl) (lt_w (by kernel_rfl) (lt_y (y_loadN Tryz.isAgg28 Tryz.sizeOf28 rfl) rfl (lt_y (y_fa0 fa31_0 rfl) rfl (lt_nil)))))) ?_
  refine pl_w1 7 (by kernel_rfl) rfl rfl (pl_fire rfl rfl rfl (by kernel_rfl) ?_)
  refine oj_callS (fun A c => .tuple #[.slice A (Ln.RunO d (l ++ payA t [pay])).length c, .int .i64 (Ln.RunN d (l ++ payA t [pay])), .int .i64 (Ln.RunE d (l ++ payA t [pay]))]) 5 Ln.encAcc (Ln.RunO d (l ++ payA t [pay])) Tryz.call6 rfl (fun w hp => by
    have h := Ln.k_Run d Ac cc (l ++ payA t [pay]) A49 c49 w hp.rd hp.rd hp.glo
    exact h) rfl (fun A50 c50 fp50 hfp50 => ?_)
  refine oj_nil ?_
  refine ej_pl (lt_y (y_move rfl) rfl (lt_y (y_move rfl) rfl (lt_y (y_loadN Tryz.isAgg31 Tryz.sizeOf31 rfl) rfl (lt_w (by kernel_rfl) (lt_y (y_fa0 fa31_0 rfl) rfl (lt_nil)))))) ?_
  refine pl_y 8 rfl (y_move rfl) rfl rfl rfl rfl (by kernel_rfl) ?_
  refine pl_y 9 rfl (y_extract rfl rfl) rfl rfl rfl rfl (by kernel_rfl) ?_
  refine pl_y 10 rfl (y_extract rfl rfl) rfl rfl rfl rfl (by kernel_rfl) ?_
  refine pl_y 11 rfl (y_extract rfl rfl) rfl rfl rfl rfl (by kernel_rfl) ?_
  refine pl_y 12 rfl (y_assign rfl) rfl rfl rfl rfl (by kernel_rfl) ?_
  refine pl_y 13 rfl (y_assign rfl) rfl rfl rfl rfl (by kernel_rfl) ?_
  refine pl_y 14 rfl (y_assign rfl) rfl rfl rfl rfl (by kernel_rfl) ?_
  refine pl_end (by kernel_rfl) ?_
  refine ej_th (cj_seq ?_)
  refine cj_plan 18 (by kernel_rfl) (by kernel_rfl) ?_
  refine pl_y 0 rfl (y_fa0 fa31_0 rfl) rfl rfl rfl rfl (by kernel_rfl) ?_
  refine pl_y 1 rfl (y_loadN Tryz.isAgg28 Tryz.sizeOf28 rfl) rfl rfl rfl rfl (by kernel_rfl) ?_
  refine pl_y 2 rfl (y_loadN Tryz.isAgg31 Tryz.sizeOf31 rfl) rfl rfl rfl rfl (by kernel_rfl) ?_
  refine pl_y 3 rfl (y_move rfl) rfl rfl rfl rfl (by kernel_rfl) ?_
  refine pl_y 4 rfl (y_move rfl) rfl rfl rfl rfl (by kernel_rfl) ?_
  refine pl_y 5 rfl (y_move rfl) rfl rfl rfl rfl (by kernel_rfl) ?_
  refine pl_y 6 rfl (y_move rfl) rfl rfl rfl rfl (by kernel_rfl) ?_
  refine pl_y 7 rfl (y_sub rfl rfl (by omega)) rfl rfl rfl rfl (by kernel_rfl) ?_
  refine pl_w1 8 (by kernel_rfl) rfl rfl (pl_fire rfl rfl rfl (by kernel_rfl) ?_)
  refine oj_buildSlice (cs := [.int .i64 part, .int .i64 (pay - part)]) [.int .i64 0, .int .i64 0] Tryz.underlying26 Tryz.sizeOf3 Tryz.zeroValue3 rfl rfl (by kernel_rfl) (by kernel_rfl) rfl (fun b63 => ?_)
  refine oj_nil ?_
  refine ej_pl (lt_w (by kernel_rfl) (lt_y (y_move rfl) rfl (lt_y (y_move rfl) rfl (lt_w (by kernel_rfl) (lt_y (y_move rfl) rfl (lt_y (y_loadN Tryz.isAgg31 Tryz.sizeOf31 rfl) rfl (lt_y (y_loadN Tryz.isAgg28 Tryz.sizeOf28 rfl) rfl (lt_y (y_fa0 fa31_0 rfl) rfl (lt_nil))))))))) ?_
  refine pl_w1 9 (by kernel_rfl) rfl rfl (pl_fire rfl rfl rfl (by kernel_rfl) ?_)
  refine oj_callS (fun A c => .slice A (l ++ payA t [part, pay - part]).length c) 3 Ln.encAct (l ++ payA t [part, pay - part]) Tryz.call7 rfl (fun w hp => by
    have h1 : Rd w 1 enInt (some ⟨b63, 0, none⟩) [part, pay - part] := (hp.rdLit (b := b63) (sz := 1) (enc := enInt) [part, pay - part] (fun _ => rfl) rfl (by unfold maxLen; simp))
    have h := k_paying d Ac cc l Al cl t [part, pay - part] (some ⟨b63, 0, none⟩) 2 w hp.rd h1 hsz (by simp)
    exact h) rfl (fun A64 c64 fp64 hfp64 => ?_)
  refine oj_nil ?_
  refine ej_pl (lt_y (y_sub rfl rfl (by omega)) rfl (lt_y (y_move rfl) rfl (lt_y (y_move rfl) rfl (lt_y (y_move rfl) rfl (lt_w (by kernel_rfl) (lt_w (by kernel_rfl) (lt_y (y_loadN Tryz.isAgg28 Tryz.sizeOf28 rfl) rfl (lt_y (y_fa0 fa31_0 rfl) rfl (lt_nil))))))))) ?_
  refine pl_w1 10 (by kernel_rfl) rfl rfl (pl_fire rfl rfl rfl (by kernel_rfl) ?_)
  refine oj_callS (fun A c => .tuple #[.slice A (Ln.RunO d (l ++ payA t [part, pay - part])).length c, .int .i64 (Ln.RunN d (l ++ payA t [part, pay - part])), .int .i64 (Ln.RunE d (l ++ payA t [part, pay - part]))]) 5 Ln.encAcc (Ln.RunO d (l ++ payA t [part, pay - part])) Tryz.call6 rfl (fun w hp => by
    have h := Ln.k_Run d Ac cc (l ++ payA t [part, pay - part]) A64 c64 w hp.rd hp.rd hp.glo
    exact h) rfl (fun A65 c65 fp65 hfp65 => ?_)
  refine oj_nil ?_
  refine ej_pl (lt_y (y_sub rfl rfl (by omega)) rfl (lt_y (y_move rfl) rfl (lt_y (y_move rfl) rfl (lt_y (y_move rfl) rfl (lt_y (y_move rfl) rfl (lt_y (y_loadN Tryz.isAgg31 Tryz.sizeOf31 rfl) rfl (lt_w (by kernel_rfl) (lt_y (y_fa0 fa31_0 rfl) rfl (lt_nil))))))))) ?_
  refine pl_y 11 rfl (y_move rfl) rfl rfl rfl rfl (by kernel_rfl) ?_
  refine pl_y 12 rfl (y_extract rfl rfl) rfl rfl rfl rfl (by kernel_rfl) ?_
  refine pl_y 13 rfl (y_extract rfl rfl) rfl rfl rfl rfl (by kernel_rfl) ?_
  refine pl_y 14 rfl (y_extract rfl rfl) rfl rfl rfl rfl (by kernel_rfl) ?_
  refine pl_y 15 rfl (y_assign rfl) rfl rfl rfl rfl (by kernel_rfl) ?_
  refine pl_y 16 rfl (y_assign rfl) rfl rfl rfl rfl (by kernel_rfl) ?_
  refine pl_y 17 rfl (y_assign rfl) rfl rfl rfl rfl (by kernel_rfl) ?_
  refine pl_end (by kernel_rfl) ?_
  refine ej_th (cj_seq (cj_seq ?_))
  have hra := runO_le d (l ++ payA t [pay])
  have hrb := runO_le d (l ++ payA t [part, pay - part])
  have hp1 : (payA t [pay]).length = 1 := rfl
  have hp2 : (payA t [part, pay - part]).length = 2 := rfl
  rw [List.length_append] at hra hrb
  have hcase : Ln.RunE d (l ++ payA t [pay]) = 0 → l.length ≤ 30 → Ln.RunE d (l ++ payA t [part, pay - part]) = 0 ∧ (Ln.RunO d (l ++ payA t [pay])).length = l.length + 1 ∧ (Ln.RunO d (l ++ payA t [part, pay - part])).length = l.length + 2 ∧ ∃ a, (Ln.RunO d (l ++ payA t [pay]))[l.length]? = some a ∧ (Ln.RunO d (l ++ payA t [part, pay - part]))[l.length + 1]? = some a := fun h1 h2 => by
    have h3 := two_last (d := d) (l := l) (t := t) (p := part) (q := pay - part) (by omega) (by omega) (by rw [show part + (pay - part) = pay by omega]; exact h1) (by omega)
    rw [show part + (pay - part) = pay by omega] at h3
    exact h3
  refine cj_draw (by kernel_rfl) (by kernel_rfl) (gj_step (y_move rfl) rfl rfl rfl (gj_step (y_eql rfl rfl) rfl rfl rfl (gj_step (y_move rfl) rfl rfl rfl (gj_g 4 71 75 rfl rfl rfl rfl (fun hg71 => gj_yes rfl rfl rfl (y_fa fa31_1 rfl) rfl rfl (gj_yes rfl rfl rfl (y_load1 Tryz.isAgg29 rfl rfl) rfl rfl (gj_yes rfl rfl rfl (y_lenA Tryz.underlying29 rfl) rfl rfl (gj_yes rfl rfl rfl (y_leq rfl rfl) rfl rfl (gj_nil rfl))))) (gj_step (y_and rfl rfl rfl) rfl rfl rfl (gj_step (y_move rfl) rfl rfl rfl (gj_g 34 77 111 rfl rfl rfl rfl (fun hg77 => gj_yes rfl rfl rfl (y_move rfl) rfl rfl (gj_yes rfl rfl rfl (y_neq rfl rfl) rfl rfl (gj_yes rfl rfl rfl (y_move rfl) rfl rfl (gj_g 7 80 87 rfl rfl rfl rfl (fun hg80 => gj_yes rfl rfl rfl (y_move rfl) rfl rfl (gj_yes rfl rfl rfl (y_lenA Tryz.underlying36 rfl) rfl rfl (gj_yes rfl rfl rfl (y_fa fa31_1 rfl) rfl rfl (gj_yes rfl rfl rfl (y_load1 Tryz.isAgg29 rfl rfl) rfl rfl (gj_yes rfl rfl rfl (y_lenA Tryz.underlying29 rfl) rfl rfl (gj_yes rfl rfl rfl (y_add rfl rfl (by omega)) rfl rfl (gj_yes rfl rfl rfl (y_neq rfl rfl) rfl rfl (gj_nil rfl)))))))) (gj_yes rfl rfl rfl (y_or rfl rfl rfl) rfl rfl (gj_yes rfl rfl rfl (y_move rfl) rfl rfl (gj_g 6 89 95 rfl rfl rfl rfl (fun hg89 => gj_yes rfl rfl rfl (y_move rfl) rfl rfl (gj_yes rfl rfl rfl (y_lenA Tryz.underlying36 rfl) rfl rfl (gj_yes rfl rfl rfl (y_move rfl) rfl rfl (gj_yes rfl rfl rfl (y_lenA Tryz.underlying36 rfl) rfl rfl (gj_yes rfl rfl rfl (y_add rfl rfl (by omega)) rfl rfl (gj_yes rfl rfl rfl (y_neq rfl rfl) rfl rfl (gj_nil rfl))))))) (gj_yes rfl rfl rfl (y_or rfl rfl rfl) rfl rfl (gj_yes rfl rfl rfl (y_move rfl) rfl rfl (gj_g 13 97 110 rfl rfl rfl rfl (fun hg97 => gj_yes rfl rfl rfl (y_move rfl) rfl rfl (gj_yes rfl rfl rfl (y_move rfl) rfl rfl (gj_yes rfl rfl rfl (y_lenA Tryz.underlying36 rfl) rfl rfl (gj_yes rfl rfl rfl (y_sub rfl rfl (by omega)) rfl rfl (gj_yes rfl rfl rfl (y_ixR (reads_sl) Tryz.underlying36 Tryz.sizeOf42 rfl rfl (⟨(by have h7 := hg97; simp only [sxb] at h7; omega), (by have h7 := hg97; simp only [sxb] at h7; omega)⟩)) rfl rfl (gj_yes rfl rfl rfl (y_ldW (reads_sl) Tryz.isAgg42 Tryz.sizeOf42 rfl (geq default (by have h7 := hg97; simp only [sxb] at h7; omega)) (fun _ => rfl)) rfl rfl (gj_yes rfl rfl rfl (y_move rfl) rfl rfl (gj_yes rfl rfl rfl (y_move rfl) rfl rfl (gj_yes rfl rfl rfl (y_lenA Tryz.underlying36 rfl) rfl rfl (gj_yes rfl rfl rfl (y_sub rfl rfl (by omega)) rfl rfl (gj_yes rfl rfl rfl (y_ixR (reads_sl) Tryz.underlying36 Tryz.sizeOf42 rfl rfl (⟨(by have h7 := hg97; simp only [sxb] at h7; omega), (by have h7 := hg97; simp only [sxb] at h7; omega)⟩)) rfl rfl (gj_yes rfl rfl rfl (y_ldW (reads_sl) Tryz.isAgg42 Tryz.sizeOf42 rfl (geq default (by have h7 := hg97; simp only [sxb] at h7; omega)) (fun _ => rfl)) rfl rfl (gj_yes rfl rfl rfl (y_bin rfl rfl (fun x y w => ne42 _ _ _ _ _ _ _ _ _ _ x y w)) rfl rfl (gj_nil rfl)))))))))))))) (gj_yes rfl rfl rfl (y_or rfl rfl rfl) rfl rfl (gj_nil rfl)))))))))))) (gj_step (y_and rfl rfl rfl) rfl rfl rfl (gj_nil ?_)))))))))
  refine ej_th ?_
  refine cj_cond rfl (fun h112 => ?_) (fun h112 => ?_)
  · exfalso
    simp only [Bool.and_eq_true, Bool.or_eq_true, decide_eq_true_eq, beq_iff_eq, bne_iff_ne, ne_eq] at h112
    obtain ⟨⟨h1, h2⟩, h3⟩ := h112
    obtain ⟨q1, q2, q3, a, q4, q5⟩ := hcase h1 (by omega)
    have e1 : (Ln.RunO d (l ++ payA t [pay])).getD (((Ln.RunO d (l ++ payA t [pay])).length : Int) - 1).toNat default = a := by rw [show (((Ln.RunO d (l ++ payA t [pay])).length : Int) - 1).toNat = l.length by omega, List.getD_eq_getElem?_getD, q4]; rfl
    have e2 : (Ln.RunO d (l ++ payA t [part, pay - part])).getD (((Ln.RunO d (l ++ payA t [part, pay - part])).length : Int) - 1).toNat default = a := by rw [show (((Ln.RunO d (l ++ payA t [part, pay - part])).length : Int) - 1).toNat = l.length + 1 by omega, List.getD_eq_getElem?_getD, q5]; rfl
    rw [e1, e2] at h3
    rcases h3 with ((h | h) | h) | h
    · exact h q1
    · exact h (by omega)
    · exact h (by omega)
    · simp at h
  · have h112b := h112
    try simp only [sxb] at h112
    refine cj_skip (ej_th (cj_seq (cj_seq ?_)))
    refine cj_regionG ?_
    refine gj_step (y_move rfl) rfl rfl rfl (?_)
    refine gj_step (y_call Tryz.call8 rfl (fun w hp => k_From _ _ _ w)) rfl rfl rfl ?_
    refine gj_step (y_not rfl) rfl rfl rfl (?_)
    refine gj_nil ?_
    refine ej_th ?_
    refine cj_cond rfl (fun h115 => ?_) (fun h115 => ?_)
    · have h115b := h115
      try simp only [sxb] at h115
      refine cj_seq ?_
      refine cj_regionG ?_
      refine gj_step (y_call Tryz.call9 rfl (fun w hp => k_paid08 w)) rfl rfl rfl ?_
      refine gj_step (y_assign rfl) rfl rfl rfl (?_)
      refine gj_nil ?_
      refine ej_th (cj_ret (ej_then_ret ?_))
      refine ej_ret1 rfl Tryz.results3 rfl (fun w' hp => ⟨?_, hp.below⟩)
      rfl
    · have h115b := h115
      try simp only [sxb] at h115
      have ht := btw_t (not_f h115b)
      have hw1 := Ti.alm_le [Ti.DlV.mk t (pe : Nat) pay] wd ws ws wm (pe : Nat)
      have hw2 := Ti.alm_le [Ti.DlV.mk t (pe : Nat) part, Ti.DlV.mk t (pe : Nat) (pay - part)] wd ws ws wm (pe : Nat)
      refine cj_skip (ej_th (cj_seq (cj_region ?_)))
      refine oj_step (y_move rfl) rfl rfl rfl ?_
      refine oj_step (y_move rfl) rfl rfl rfl ?_
      refine oj_step (y_move rfl) rfl rfl rfl ?_
      refine oj_step (y_build (cs := [.int .i64 t, .int .i64 (pe : Nat), .int .i64 pay]) st49 rfl (by kernel_rfl)) rfl rfl rfl ?_
      refine oj_buildSlice (cs := [.int .i64 t, .int .i64 (pe : Nat), .int .i64 pay]) [.int .i64 0, .int .i64 0, .int .i64 0] Tryz.underlying50 Tryz.sizeOf49 Tryz.zeroValue49 rfl rfl (by kernel_rfl) (by kernel_rfl) rfl (fun b122 => ?_)
      refine oj_step (y_loadN Tryz.isAgg33 Tryz.sizeOf33 rfl) rfl rfl rfl ?_
      refine oj_callS (fun A c => .tuple #[.slice A (Ti.AlmL [Ti.DlV.mk t (pe : Nat) pay] wd ws ws wm (pe : Nat)).length c, .int .i64 (Ti.AlmE wd ws ws wm)]) 3 Ti.encAl (Ti.AlmL [Ti.DlV.mk t (pe : Nat) pay] wd ws ws wm (pe : Nat)) Tryz.call10 rfl (fun w hp => by
        have h1 : Rd w 3 Ti.encDl (some ⟨b122, 0, none⟩) [Ti.DlV.mk t (pe : Nat) pay] := (hp.rdLit (b := b122) (sz := 3) (enc := Ti.encDl) [Ti.DlV.mk t (pe : Nat) pay] (fun _ => rfl) rfl (by unfold maxLen; simp))
        have h2 : Ti.AllAt [Ti.DlV.mk t (pe : Nat) pay] t (pe : Nat) := (fun x hx => by rw [List.mem_singleton.1 hx]; exact ⟨rfl, rfl, by simp only; omega⟩)
        have h := Ti.k_Alarms [Ti.DlV.mk t (pe : Nat) pay] (some ⟨b122, 0, none⟩) 1 wd ws ws wm t pe w h1 h2 hpe ht (by simp) (by simp) (by simp) rfl
        exact h) rfl (fun A124 c124 fp124 hfp124 => ?_)
      refine oj_step (y_move rfl) rfl rfl rfl ?_
      refine oj_step (y_extract rfl rfl) rfl rfl rfl ?_
      refine oj_step (y_extract rfl rfl) rfl rfl rfl ?_
      refine oj_step (y_assign rfl) rfl rfl rfl ?_
      refine oj_step (y_assign rfl) rfl rfl rfl ?_
      refine oj_nil ?_
      refine ej_th (cj_seq (cj_region ?_))
      refine oj_step (y_move rfl) rfl rfl rfl ?_
      refine oj_step (y_move rfl) rfl rfl rfl ?_
      refine oj_step (y_move rfl) rfl rfl rfl ?_
      refine oj_step (y_build (cs := [.int .i64 t, .int .i64 (pe : Nat), .int .i64 part]) st49 rfl (by kernel_rfl)) rfl rfl rfl ?_
      refine oj_step (y_move rfl) rfl rfl rfl ?_
      refine oj_step (y_move rfl) rfl rfl rfl ?_
      refine oj_step (y_move rfl) rfl rfl rfl ?_
      refine oj_step (y_move rfl) rfl rfl rfl ?_
      refine oj_step (y_sub rfl rfl (by omega)) rfl rfl rfl ?_
      refine oj_step (y_build (cs := [.int .i64 t, .int .i64 (pe : Nat), .int .i64 (pay - part)]) st49 rfl (by kernel_rfl)) rfl rfl rfl ?_
      refine oj_buildSlice (cs := [.int .i64 t, .int .i64 (pe : Nat), .int .i64 part, .int .i64 t, .int .i64 (pe : Nat), .int .i64 (pay - part)]) [.int .i64 0, .int .i64 0, .int .i64 0, .int .i64 0, .int .i64 0, .int .i64 0] Tryz.underlying50 Tryz.sizeOf49 Tryz.zeroValue49 rfl rfl (by kernel_rfl) (by kernel_rfl) rfl (fun b138 => ?_)
      refine oj_step (y_loadN Tryz.isAgg33 Tryz.sizeOf33 rfl) rfl rfl rfl ?_
      refine oj_callS (fun A c => .tuple #[.slice A (Ti.AlmL [Ti.DlV.mk t (pe : Nat) part, Ti.DlV.mk t (pe : Nat) (pay - part)] wd ws ws wm (pe : Nat)).length c, .int .i64 (Ti.AlmE wd ws ws wm)]) 3 Ti.encAl (Ti.AlmL [Ti.DlV.mk t (pe : Nat) part, Ti.DlV.mk t (pe : Nat) (pay - part)] wd ws ws wm (pe : Nat)) Tryz.call10 rfl (fun w hp => by
        have h1 : Rd w 3 Ti.encDl (some ⟨b138, 0, none⟩) [Ti.DlV.mk t (pe : Nat) part, Ti.DlV.mk t (pe : Nat) (pay - part)] := (hp.rdLit (b := b138) (sz := 3) (enc := Ti.encDl) [Ti.DlV.mk t (pe : Nat) part, Ti.DlV.mk t (pe : Nat) (pay - part)] (fun _ => rfl) rfl (by unfold maxLen; simp))
        have h2 : Ti.AllAt [Ti.DlV.mk t (pe : Nat) part, Ti.DlV.mk t (pe : Nat) (pay - part)] t (pe : Nat) := (fun x hx => by
        simp only [List.mem_cons, List.mem_nil_iff, or_false] at hx
        rcases hx with rfl | rfl
        · exact ⟨rfl, rfl, by simp only; omega⟩
        · exact ⟨rfl, rfl, by simp only; omega⟩)
        have h := Ti.k_Alarms [Ti.DlV.mk t (pe : Nat) part, Ti.DlV.mk t (pe : Nat) (pay - part)] (some ⟨b138, 0, none⟩) 2 wd ws ws wm t pe w h1 h2 hpe ht (by simp) (by simp) (by simp) rfl
        exact h) rfl (fun A140 c140 fp140 hfp140 => ?_)
      refine oj_step (y_move rfl) rfl rfl rfl ?_
      refine oj_step (y_extract rfl rfl) rfl rfl rfl ?_
      refine oj_step (y_extract rfl rfl) rfl rfl rfl ?_
      refine oj_step (y_assign rfl) rfl rfl rfl ?_
      refine oj_step (y_assign rfl) rfl rfl rfl ?_
      refine oj_nil ?_
      refine ej_th (cj_seq (cj_seq ?_))
      refine cj_regionG (gj_step (y_move rfl) rfl rfl rfl (gj_step (y_move rfl) rfl rfl rfl (gj_step (y_neq rfl rfl) rfl rfl rfl (gj_nil ?_))))
      refine ej_th ?_
      refine cj_cond rfl (fun h145 => ?_) (fun h145 => ?_)
      · exfalso
        simp at h145
      · have h145b := h145
        try simp only [sxb] at h145
        refine cj_skip (ej_th (cj_seq (cj_seq ?_)))
        refine cj_regionG (gj_step (y_move rfl) rfl rfl rfl (gj_step (y_neq rfl rfl) rfl rfl rfl (gj_nil ?_)))
        refine ej_th ?_
        refine cj_cond rfl (fun h147 => ?_) (fun h147 => ?_)
        · have h147b := h147
          try simp only [sxb] at h147
          obtain ⟨hz1, hz2⟩ := Ti.alm_no h147 [Ti.DlV.mk t (pe : Nat) pay] (pe : Nat)
          obtain ⟨_, hz3⟩ := Ti.alm_no h147 [Ti.DlV.mk t (pe : Nat) part, Ti.DlV.mk t (pe : Nat) (pay - part)] (pe : Nat)
          refine cj_seq ?_
          refine cj_regionG ?_
          refine gj_step (y_move rfl) rfl rfl rfl (gj_step (y_eql rfl rfl) rfl rfl rfl (gj_step (y_move rfl) rfl rfl rfl (?_)))
          refine gj_g 6 150 156 rfl rfl rfl rfl (fun hg150 => gj_yes rfl rfl rfl (y_move rfl) rfl rfl (gj_yes rfl rfl rfl (y_lenA Tryz.underlying45 rfl) rfl rfl (gj_yes rfl rfl rfl (y_move rfl) rfl rfl (gj_yes rfl rfl rfl (y_lenA Tryz.underlying45 rfl) rfl rfl (gj_yes rfl rfl rfl (y_add rfl rfl (by omega)) rfl rfl (gj_yes rfl rfl rfl (y_eql rfl rfl) rfl rfl (gj_nil rfl))))))) ?_
          refine gj_step (y_and rfl rfl rfl) rfl rfl rfl (gj_step (y_move rfl) rfl rfl rfl (?_))
          refine gj_g 1 158 159 rfl rfl rfl rfl (fun hg158 => gj_yes rfl rfl rfl (y_call Tryz.call9 rfl (fun w hp => k_paid08 w)) rfl rfl (gj_nil rfl)) ?_
          refine gj_step (y_and rfl rfl rfl) rfl rfl rfl (gj_step (y_assign rfl) rfl rfl rfl (?_))
          refine gj_nil ?_
          refine ej_th (cj_ret (ej_then_ret ?_))
          refine ej_ret1 rfl Tryz.results3 rfl (fun w' hp => ⟨congrArg (fun b => Ending.returned (.bool b)) (?_ : _ = true), hp.below⟩)
          rw [hz1, hz2, hz3]; rfl
        · have h147b := h147
          try simp only [sxb] at h147
          obtain ⟨hy1, hy2⟩ := Ti.alm_yes (by omega) [Ti.DlV.mk t (pe : Nat) pay] (pe : Nat)
          obtain ⟨_, hy3⟩ := Ti.alm_yes (by omega) [Ti.DlV.mk t (pe : Nat) part, Ti.DlV.mk t (pe : Nat) (pay - part)] (pe : Nat)
          rw [Ti.ala_one] at hy2
          rw [Ti.ala_two, show part + (pay - part) = pay by omega] at hy3
          refine cj_skip (ej_th (cj_seq (cj_seq ?_)))
          refine cj_regionG (gj_step (y_move rfl) rfl rfl rfl (gj_step (y_lenA Tryz.underlying45 rfl) rfl rfl rfl (gj_step (y_move rfl) rfl rfl rfl (gj_step (y_lenA Tryz.underlying45 rfl) rfl rfl rfl (gj_step (y_neq rfl rfl) rfl rfl rfl (gj_step (y_move rfl) rfl rfl rfl (gj_g 8 166 174 rfl rfl rfl rfl (fun hg166 => gj_yes rfl rfl rfl (y_move rfl) rfl rfl (gj_yes rfl rfl rfl (y_lenA Tryz.underlying45 rfl) rfl rfl (gj_yes rfl rfl rfl (y_eql rfl rfl) rfl rfl (gj_yes rfl rfl rfl (y_move rfl) rfl rfl (gj_yes rfl rfl rfl (y_fa fa33_1 rfl) rfl rfl (gj_yes rfl rfl rfl (y_load1 Tryz.isAgg3 rfl rfl) rfl rfl (gj_yes rfl rfl rfl (y_geq rfl rfl) rfl rfl (gj_yes rfl rfl rfl (y_neqB Tryz.underlying4 rfl rfl) rfl rfl (gj_nil rfl))))))))) (gj_step (y_or rfl rfl rfl) rfl rfl rfl (gj_nil ?_)))))))))
          refine ej_th ?_
          refine cj_cond rfl (fun h175 => ?_) (fun h175 => ?_)
          · exfalso
            rw [hy2, hy3] at h175
            by_cases g1 : ws ≤ part
            · rw [if_pos g1, if_pos (show ws ≤ pay by omega)] at h175
              simp at h175
              omega
            · rw [if_neg g1] at h175
              by_cases g2 : ws ≤ pay
              · rw [if_pos g2, if_pos g2] at h175
                simp at h175
                omega
              · rw [if_neg g2, if_neg g2] at h175
                simp at h175
                omega
          · have h175b := h175
            try simp only [sxb] at h175
            refine cj_skip (ej_th (cj_seq ?_))
            refine cj_draw (by kernel_rfl) (by kernel_rfl) ?_
            refine gj_step (y_move rfl) rfl rfl rfl (gj_step (y_lenA Tryz.underlying45 rfl) rfl rfl rfl (gj_step (y_eql rfl rfl) rfl rfl rfl (gj_step (y_move rfl) rfl rfl rfl (?_))))
            refine gj_g 24 179 203 rfl rfl rfl rfl (fun hg179 => gj_yes rfl rfl rfl (y_move rfl) rfl rfl (gj_yes rfl rfl rfl (y_ixR (reads_sl) Tryz.underlying45 Tryz.sizeOf52 rfl rfl (⟨by omega, (by have h7 := hg179; simp only [sxb] at h7; omega)⟩)) rfl rfl (gj_yes rfl rfl rfl (y_ldW (reads_sl) Tryz.isAgg52 Tryz.sizeOf52 rfl (geq default (by have h7 := hg179; simp only [sxb] at h7; omega)) (fun _ => rfl)) rfl rfl (gj_yes rfl rfl rfl (y_move rfl) rfl rfl (gj_yes rfl rfl rfl (y_move rfl) rfl rfl (gj_yes rfl rfl rfl (y_build (cs := [.int .i64 (pe : Nat), .int .i64 0, .int .i64 pay]) st52 rfl (by kernel_rfl)) rfl rfl (gj_yes rfl rfl rfl (y_bin rfl rfl (fun x y w => eq52 _ _ _ _ _ _ x y w)) rfl rfl (gj_yes rfl rfl rfl (y_move rfl) rfl rfl (gj_g 6 187 193 rfl rfl rfl rfl (fun hg187 => gj_yes rfl rfl rfl (y_move rfl) rfl rfl (gj_yes rfl rfl rfl (y_ixR (reads_sl) Tryz.underlying45 Tryz.sizeOf52 rfl rfl (⟨by omega, (by have h7 := hg179; simp only [sxb] at h7; omega)⟩)) rfl rfl (gj_yes rfl rfl rfl (y_faE fa52_0 rfl) rfl rfl (gj_yes rfl rfl rfl (y_ld1 (reads_sl) Tryz.isAgg3 rfl (geq default (by have h7 := hg179; simp only [sxb] at h7; omega)) rfl) rfl rfl (gj_yes rfl rfl rfl (y_move rfl) rfl rfl (gj_yes rfl rfl rfl (y_eql rfl rfl) rfl rfl (gj_nil rfl))))))) (gj_yes rfl rfl rfl (y_and rfl rfl rfl) rfl rfl (gj_yes rfl rfl rfl (y_move rfl) rfl rfl (gj_g 7 195 202 rfl rfl rfl rfl (fun hg195 => gj_yes rfl rfl rfl (y_move rfl) rfl rfl (gj_yes rfl rfl rfl (y_ixR (reads_sl) Tryz.underlying45 Tryz.sizeOf52 rfl rfl (⟨by omega, (by have h7 := hg179; simp only [sxb] at h7; omega)⟩)) rfl rfl (gj_yes rfl rfl rfl (y_faE fa52_2 rfl) rfl rfl (gj_yes rfl rfl rfl (y_ld1 (reads_sl) Tryz.isAgg3 rfl (geq default (by have h7 := hg179; simp only [sxb] at h7; omega)) rfl) rfl rfl (gj_yes rfl rfl rfl (y_fa fa33_1 rfl) rfl rfl (gj_yes rfl rfl rfl (y_load1 Tryz.isAgg3 rfl rfl) rfl rfl (gj_yes rfl rfl rfl (y_geq rfl rfl) rfl rfl (gj_nil rfl)))))))) (gj_yes rfl rfl rfl (y_and rfl rfl rfl) rfl rfl (gj_nil rfl)))))))))))))) ?_
            refine gj_step (y_or rfl rfl rfl) rfl rfl rfl (gj_step (y_move rfl) rfl rfl rfl (?_))
            refine gj_g 1 205 206 rfl rfl rfl rfl (fun hg205 => gj_yes rfl rfl rfl (y_call Tryz.call9 rfl (fun w hp => k_paid08 w)) rfl rfl (gj_nil rfl)) ?_
            refine gj_step (y_and rfl rfl rfl) rfl rfl rfl (gj_step (y_assign rfl) rfl rfl rfl (?_))
            refine gj_nil ?_
            refine ej_th (cj_ret ?_)
            refine ej_ret1 rfl Tryz.results3 rfl (fun w' hp => ⟨congrArg (fun b => Ending.returned (.bool b)) (?_ : _ = true), hp.below⟩)
            rw [hy2, hy3]
            by_cases g1 : ws ≤ part
            · rw [if_pos g1, if_pos (show ws ≤ pay by omega)]
              simp
              omega
            · rw [if_neg g1]
              by_cases g2 : ws ≤ pay
              · rw [if_pos g2, if_pos g2]
                simp
                omega
              · rw [if_neg g2, if_neg g2]
                simp

end Go.Proofs.YtppfniekcgnmjaaGreatDoor.To
