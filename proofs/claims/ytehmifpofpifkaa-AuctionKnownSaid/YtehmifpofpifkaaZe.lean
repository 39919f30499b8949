/- Texts of ours, joined: 7 of them. Conditions: none. -/
import Derived.Test.YtehmifpofpifkaaZd
import Derived.Shelf.SlSortCmp.NoneTotal
import Derived.WalkKit
import Derived.Test.YtehmifpofpifkaaProg
import Derived.Laws.StructEq
import Derived.Shelf.SlGeneric
import Derived.Shelf.SlLaysF
namespace Go.Sx
open Go.RowKit Go.Proofs Go.Sort Go.Shelf
variable {α : Type} [Inhabited α]
theorem flat_at (enc : α → List Value) (k : Nat) (hk : ∀ x, (enc x).length = k) (hk0 : 0 < k) (xs : List α) (t : Nat) (h : t < xs.length * k) : (xs.flatMap enc)[t]? = some ((flatK enc k xs.toArray)[t]!) := by
  have hq : t / k < xs.length := Nat.div_lt_of_lt_mul (by rw [Nat.mul_comm]; exact h)
  have hm : t % k < k := Nat.mod_lt _ hk0
  have he : t / k * k + t % k = t := by rw [Nat.mul_comm]; exact Nat.div_add_mod t k
  have hx : xs[t / k]? = some (xs[t / k]'hq) := List.getElem?_eq_getElem hq
  have h1 := flatMap_get enc k hk xs (t / k) _ (t % k) hx hm
  rw [he] at h1
  rw [h1, get_flatK enc k xs.toArray t (by simpa using h)]
  have h2 : xs.toArray[t / k]! = xs[t / k]'hq := by simp [getElem!_pos, hq]
  rw [h2, getElem!_pos _ _ (by rw [hk]; exact hm), List.getElem?_eq_getElem (by rw [hk]; exact hm)]
theorem calls_sortK {P : Program} {ρ : Ren} (L : SlLaysF0.n6 P ρ) (k : Nat) (hk0 : 0 < k) (aE : ∀ w, (isAgg (ρ.t 24)).run P w = .ok true w) (zE : ∀ w, (Go.sizeOf (ρ.t 24)).run P w = .ok k w) (enc : α → List Value) (hk : ∀ x, (enc x).length = k) (h1 : ∀ x, ∀ v ∈ enc x, v.oneCell' = true)
    (cf : α → α → Int) (hO : SWO (ltOf cf)) (hT : ∀ x y, (ltOf cf) x y = false → (ltOf cf) y x = false → x = y) (g : Nat) (eg : ∀ args w, (callFunc g args).run P w = .ok (.enter g args) w)
    (hcmp : ∀ (x y : α) (W : World), Calls P g #[.agg (enc x).toArray, .agg (enc y).toArray] W (fun e w' => e = .returned (.int .i64 (cf x y)) ∧ ∃ q os', w' = grow (W.drewN q) os'))
    (e c : Nat) (A : Option Addr) (xs : List α) (w : World) (hl : xs.length < 4611686018427387904) (ho : (ow e k enc A c xs).P w) :
    Calls P (ρ.f 6) #[.slice A xs.length c, .func (.func g) #[] #[]] w (fun en w' => en = .returned (.tuple #[]) ∧ Mut (ow e k enc A c xs) w w' ∧ (ow e k enc A c (xs.mergeSort fun x y => !(ltOf cf) y x)).P w') := by
  have ho' : w.ownsRow 0 e k (.slice A xs.length c) xs.length (xs.flatMap enc) := ho
  rcases ho'.2 with ⟨h2, h3⟩ | ⟨b, cap, cur, hv, _, hb, hn, hm, hs, ht⟩
  · have hx0 : xs = [] := List.eq_nil_of_length_eq_zero h3
    subst hx0
    have hS := AnyF.slices_SortFunc_none (P := P) (ρ := ρ) { L with } A c (.func (.func g) #[] #[]) w
    refine hS.mono fun en w' hh => ?_
    obtain ⟨he, hw⟩ := hh
    rw [hw]
    have e0 : (([] : List α).mergeSort fun x y => !(ltOf cf) y x) = [] := by simp
    rw [e0]
    exact ⟨he, ⟨rfl, rfl, rfl, Nat.le_refl _, fun _ _ _ => rfl⟩, ho⟩
  · injection hv with hA _ hc
    subst hA; subst hc
    have hblk : b < w.heap.size := (Array.getElem?_eq_some_iff.1 hb).1
    have hH : HoldsK enc k w b 0 xs.toArray := by
      intro j hj
      rw [size_flatK] at hj
      have hj' : j < xs.length * k := by simpa using hj
      refine ⟨?_, by simp [World.frozen?, hb]⟩
      have e1 : (cur.toList.take (xs.length * k))[j]? = (xs.flatMap enc)[j]? := by rw [ht]
      rw [List.getElem?_take, if_pos hj', Array.getElem?_toList, flat_at enc k hk hk0 xs j hj'] at e1
      simp only [World.cell?, hb, Nat.zero_add]
      simp only [Option.isSome_none, Bool.false_eq_true, if_false]
      exact e1
    have hS := AnyQ.slices_SortFunc_total L k aE zE enc hk h1 cf hO g #[] b 0 c xs.toArray w eg (fun _ _ _ _ x y => hcmp x y _) hH hblk (by simpa using hl) hT
    rw [show xs.toArray.size = xs.length by simp] at hS
    refine hS.mono fun en w' hh => ?_
    obtain ⟨he, q, os, hw⟩ := hh
    refine ⟨he, ?_⟩
    obtain ⟨ys, hys⟩ : ∃ ys, ys = xs.mergeSort fun x y => !(ltOf cf) y x := ⟨_, rfl⟩
    have hyl : ys.length = xs.length := by rw [hys]; exact List.length_mergeSort ..
    have hw2 : w' = grow (putRowK enc k (Sort.ahead w q) b 0 ys.toArray) os := by rw [hw, hys]; rfl
    have hsz : (putRowK enc k (Sort.ahead w q) b 0 ys.toArray).heap.size = w.heap.size := by simp [putRowK, putRow, mapBlock, Sort.ahead]
    rw [← hys, hw2]
    constructor
    · refine ⟨rfl, rfl, rfl, by rw [size_grow, hsz]; omega, fun j hj hne => ?_⟩
      rw [heap_grow_old _ _ (by rw [hsz]; exact hj)]
      have hbk : b ≠ j := fun h => hne (by rw [← h]; rfl)
      simp [putRowK, putRow, mapBlock, Sort.ahead, Array.getElem?_modify, hbk]
    · refine (ow e k enc (some ⟨b, 0, none⟩) c ys).stab (w := putRowK enc k (Sort.ahead w q) b 0 ys.toArray) (fun j hj => ?_) ?_
      · have hbk : b = j := by
          have : (Value.slice (some ⟨b, 0, none⟩) ys.length c).ownBlock = some j := hj
          injection this
        rw [heap_grow_old _ _ (by rw [hsz]; omega)]
      · show World.ownsRow _ 0 e k (.slice (some ⟨b, 0, none⟩) ys.length c) ys.length (ys.flatMap enc)
        refine ⟨by rw [flatMap_len enc k hk], .inr ⟨b, c, putCells id 0 (flatK enc k ys.toArray) cur, rfl, Nat.zero_le _, ?_, by omega, hm, by simpa [putCells] using hs, ?_⟩⟩
        · simp [putRowK, putRow, mapBlock, Sort.ahead, Array.getElem?_modify, hb, onCells]
        · apply List.ext_getElem?
          intro j
          by_cases hj : j < ys.length * k
          · rw [List.getElem?_take, if_pos hj, flat_at enc k hk hk0 ys j hj, Array.getElem?_toList]
            have hjc : j < cur.size := by
              have := Nat.mul_le_mul_right k (show ys.length ≤ c by omega)
              omega
            simp only [putCells, Array.getElem?_mapIdx, Array.getElem?_eq_getElem hjc, Option.map_some]
            rw [if_pos ⟨Nat.zero_le _, by rw [size_flatK]; simpa using hj⟩]
            simp
          · rw [List.getElem?_take, if_neg hj, List.getElem?_eq_none (by rw [flatMap_len enc k hk]; omega)]
end Go.Sx
namespace Go.Proofs.Ytehmifpofpifkaa
open Go.Sx Go.RowKit Am Go.Sort Go.Shelf
set_option maxRecDepth 20000
theorem wa0 (W : World) (a b : Obj) : (W.alloc a).alloc b = grow (W.drewN 0) (#[a] ++ #[b]) := by rw [alloc_eq_grow, alloc_eq_grow, grow_grow]; rfl
theorem wa1 (W : World) (a b : Obj) (q : Nat) (os : Array Obj) : grow (((W.alloc a).alloc b).drewN q) os = grow (W.drewN q) ((#[a] ++ #[b]) ++ os) := by
  rw [alloc_eq_grow, alloc_eq_grow, grow_grow]
  show grow (grow (W.drewN q) (#[a] ++ #[b])) os = _
  rw [grow_grow]
set_option maxHeartbeats 1000000 in
theorem k_beatsG (a b : BidV) (W : World) : Calls Try.prog 93 #[.agg (encBi a).toArray, .agg (encBi b).toArray] W (fun e w' => e = .returned (.bool (beats a b)) ∧ ∃ q os', w' = grow (W.drewN q) os') := by
  obtain ⟨a0, a1, a2⟩ := a
  obtain ⟨b0, b1, b2⟩ := b
  show Calls Try.prog 93 #[.agg #[.int .i64 a0, .int .i64 a1, .int .i64 a2], .agg #[.int .i64 b0, .int .i64 b1, .int .i64 b2]] W _
  go_enter Try.func93, Try.ntmps93
  go_wp2
  · go_ret
    rename_i h
    refine ⟨?_, 0, _, by rw [alloc_eq_grow, alloc_eq_grow, grow_grow]; rfl⟩
    have h2 : a2 ≠ b2 := by simpa using h
    unfold beats; rw [if_neg h2]; rfl
  · go_ret
    rename_i h
    refine ⟨?_, 0, _, by rw [alloc_eq_grow, alloc_eq_grow, grow_grow]; rfl⟩
    have h2 : a2 = b2 := by
      have : (a2 != b2) = false := by assumption
      simpa using this
    have h3 : a1 ≠ b1 := by simpa using h
    unfold beats; rw [if_pos h2, if_neg h3]; rfl
  · go_ret
    rename_i h1 h
    refine ⟨?_, 0, _, by rw [alloc_eq_grow, alloc_eq_grow, grow_grow]; rfl⟩
    have h2 : a2 = b2 := by simpa using h1
    have h3 : a1 = b1 := by simpa using h
    unfold beats; rw [if_pos h2, if_pos h3]; rfl
def cmpO (a b : BidV) : Int := if a = b then 0 else if beats a b then -1 else 1
theorem eq93' (a0 a1 a2 b0 b1 b2 : Int) (x y : Operand) (w : World) : (do eqGuard .eql 93 x y (.agg #[.int .i64 a0, .int .i64 a1, .int .i64 a2]) (.agg #[.int .i64 b0, .int .i64 b1, .int .i64 b2]); binOp .eql 93 (.agg #[.int .i64 a0, .int .i64 a1, .int .i64 a2]) (.agg #[.int .i64 b0, .int .i64 b1, .int .i64 b2]) : Sem Value).run Try.prog w = .ok (.bool ((a0 == b0) && (a1 == b1) && (a2 == b2))) w := by
  simp [go_sem, Try.eqGuardType93, Try.stoodInHeld93, Try.stoodInHeld53, Try.underlying93, Try.underlying53, Try.underlying3]
  try ((repeat' split) <;> simp_all)
theorem wl_eqO {ops : Array Oper} {rest : List Oper} {Q : Exit → Act → World → Prop} {a : Act} {w : World} {dst : Option Tmp} {ty ty' : TypeId} {pos : String} {aft : Array Edge} {x y : Operand} {a0 a1 a2 b0 b1 b2 : Int}
    (hx : a.eval x = .agg #[.int .i64 a0, .int .i64 a1, .int .i64 a2]) (hy : a.eval y = .agg #[.int .i64 b0, .int .i64 b1, .int .i64 b2])
    (k : wpList Try.prog ops Q rest (a.put dst (.bool ((a0 == b0) && (a1 == b1) && (a2 == b2)))) w) : wpList Try.prog ops Q (⟨dst, .binOp .eql 93 x y ty', ty, pos, aft, none⟩ :: rest) a w := by
  refine wpList_plain rfl fun K' hK' => ?_
  have h := eq93' a0 a1 a2 b0 b1 b2 x y w
  have hrun : (execOp a.eval ⟨dst, .binOp .eql 93 x y ty', ty, pos, aft, none⟩).run Try.prog w = .ok (.value (.bool ((a0 == b0) && (a1 == b1) && (a2 == b2)))) w := by
    simp only [execOp, hx, hy]
    rw [Sem.run_bind, h]; rfl
  unfold Oper.wp
  rw [hrun]
  exact hK' _ _ k
set_option maxHeartbeats 1000000 in
theorem k_cmpO1 (a0 a1 a2 b0 b1 b2 : Int) (r : Bool) (W : World) (hcon : ∀ W, Calls Try.prog 93 #[.agg #[.int .i64 a0, .int .i64 a1, .int .i64 a2], .agg #[.int .i64 b0, .int .i64 b1, .int .i64 b2]] W (fun e w' => e = .returned (.bool r) ∧ ∃ q os', w' = grow (W.drewN q) os')) :
    Calls Try.prog 95 #[.agg #[.int .i64 a0, .int .i64 a1, .int .i64 a2], .agg #[.int .i64 b0, .int .i64 b1, .int .i64 b2]] W (fun e w' => e = .returned (.int .i64 (if (a0 == b0 && a1 == b1 && a2 == b2) = true then 0 else if r = true then -1 else 1)) ∧ ∃ q os', w' = grow (W.drewN q) os') := by
  go_enter Try.func95, Try.ntmps95
  generalize hb : ((a0 == b0) && (a1 == b1) && (a2 == b2)) = eb
  go_wp2_with (first | (refine wl_eqO rfl rfl ?_; rw [hb]) | (go_at_call 93; refine (hcon _).mono ?_; rintro e w' ⟨rfl, q, os, rfl⟩))
  all_goals (go_ret; first | exact ⟨rfl, 0, _, wa0 _ _ _⟩ | exact ⟨rfl, _, _, wa1 _ _ _ _ _⟩)
theorem k_cmpO (a b : BidV) (W : World) : Calls Try.prog 95 #[.agg (encBi a).toArray, .agg (encBi b).toArray] W (fun e w' => e = .returned (.int .i64 (cmpO a b)) ∧ ∃ q os', w' = grow (W.drewN q) os') := by
  have hcon := fun W' => k_beatsG a b W'
  have hv : cmpO a b = if (a.who == b.who && a.way == b.way && a.most == b.most) = true then 0 else if beats a b = true then -1 else 1 := by
    unfold cmpO
    by_cases h : a = b
    · subst h; simp
    · have hne : ¬ (a.who == b.who && a.way == b.way && a.most == b.most) = true := by
        simp only [Bool.and_eq_true, beq_iff_eq]
        rintro ⟨⟨h1, h2⟩, h3⟩
        exact h (bid_ext h1 h2 h3)
      rw [if_neg h, if_neg hne]
  rw [hv]
  exact k_cmpO1 a.who a.way a.most b.who b.way b.most (beats a b) W hcon
theorem ltO (a b : BidV) : ltOf cmpO a b = beats a b := by
  unfold ltOf cmpO
  by_cases h : a = b
  · subst h
    rw [if_pos rfl]
    cases hb : beats a a with
    | false => rfl
    | true => rw [beats_iff] at hb; omega
  · rw [if_neg h]
    cases hb : beats a b <;> rfl
theorem swoO : SWO (ltOf cmpO) where
  irrefl x := by rw [ltO, beats_no]; omega
  trans x y z h1 h2 := by rw [ltO, beats_iff] at *; omega
  ntrans x y z h1 h2 := by rw [ltO, beats_no] at *; omega
theorem totO (x y : BidV) (h1 : ltOf cmpO x y = false) (h2 : ltOf cmpO y x = false) : x = y := by
  rw [ltO, beats_no] at *
  exact bid_ext (by omega) (by omega) (by omega)
end Go.Proofs.Ytehmifpofpifkaa
namespace Go.Proofs.Ytehmifpofpifkaa
open Go.Sx Go.RowKit Am

abbrev evB (b : BidV) : Value := .agg #[.int .i64 b.who, .int .i64 b.way, .int .i64 b.most]
def firstNo {α : Type} (p : α → Bool) : List α → Int → Int
  | [], _ => -1
  | x :: l, i => if p x = true then firstNo p l (i + 1) else i
theorem firstNo_drop {α : Type} (p : α → Bool) (l : List α) (k : Nat) (x : α) (h : l[k]? = some x) : firstNo p (l.drop k) k = if p x = true then firstNo p (l.drop (k + 1)) ((k + 1 : Nat) : Int) else (k : Int) := by
  obtain ⟨h1, h2⟩ := List.getElem?_eq_some_iff.1 h
  rw [List.drop_eq_getElem_cons h1, h2, firstNo]; rfl
theorem firstNo_ge {α : Type} (p : α → Bool) : ∀ (l : List α) (i : Int), 0 ≤ i → decide (0 ≤ firstNo p l i) = !(l.all p)
  | [], i, _ => by simp [firstNo]
  | x :: l, i, h => by
    rw [firstNo, List.all_cons]
    cases hp : p x with
    | true => rw [if_pos rfl, firstNo_ge p l (i + 1) (by omega), Bool.true_and]
    | false => rw [if_neg (by simp)]; simp [h]
theorem firstNo_all {α : Type} (p : α → Bool) (l : List α) : decide (0 ≤ firstNo p l 0) = !(l.all p) := firstNo_ge p l 0 (Int.le_refl _)
def bid1 (b : BidV) : Bool := btw 0 b.who 99 && btw 0 b.way 3 && btw 1 b.most 100000
def bidsB (bs : List BidV) : Bool := decide ((bs.length : Int) ≤ 32) && bs.all bid1
theorem bid1_V (b : BidV) : (((!(decide (0 ≤ b.who) && decide (b.who ≤ 99))) || !(decide (0 ≤ b.way) && decide (b.way ≤ 3))) || !(decide (1 ≤ b.most) && decide (b.most ≤ 100000))) = !(bid1 b) := by
  unfold bid1 btw
  rw [← Bool.not_and, ← Bool.not_and]
theorem bids_ok {bs : List BidV} (h : bidsB bs = true) : bs.length ≤ 32 ∧ ∀ b ∈ bs, (0 ≤ b.who ∧ b.who ≤ 99) ∧ (0 ≤ b.way ∧ b.way ≤ 3) ∧ (1 ≤ b.most ∧ b.most ≤ 100000) := by
  unfold bidsB at h
  rw [Bool.and_eq_true, decide_eq_true_eq] at h
  refine ⟨by omega, fun b hb => ?_⟩
  have := List.all_eq_true.1 h.2 b hb
  unfold bid1 at this
  simp only [Bool.and_eq_true, btw_t] at this
  exact ⟨this.1.1, this.1.2, this.2⟩
/-- sorted, the one that beats all others first -/
def srt (l : List BidV) : List BidV := l.mergeSort fun x y => !(ltOf cmpO) y x
theorem srt_perm (l : List BidV) : (srt l).Perm l := List.mergeSort_perm ..
theorem srt_pw (l : List BidV) : (srt l).Pairwise (fun a b => beats b a = false) := by
  have := List.pairwise_mergeSort (le := fun x y : BidV => !(ltOf cmpO) y x) (fun a b c h1 h2 => by simp only [ltO, Bool.not_eq_true', beats_no] at *; omega) (fun a b => by
    simp only [ltO, Bool.or_eq_true, Bool.not_eq_true', beats_no]; omega) l
  exact this.imp (fun h => by simpa [ltO] using h)
theorem srt_eq {l m : List BidV} (h : l.Perm m) : srt l = srt m :=
  List.Perm.eq_of_pairwise (fun a b _ _ h1 h2 => by rw [beats_no] at h1 h2; exact bid_ext (by omega) (by omega) (by omega)) (srt_pw l) (srt_pw m) ((srt_perm l).trans (h.trans (srt_perm m).symm))
def offL (rs : List Int) (bs : List BidV) : List BidV := srt ((ownF rs bs []).map (·.2))
theorem offL_len (rs : List Int) (bs : List BidV) : (offL rs bs).length ≤ bs.length := by
  have key : ∀ (l : List BidV) (m : List (Int × BidV)), (ownF rs l m).length ≤ m.length + l.length := by
    intro l
    induction l with
    | nil => intro m; exact Nat.le_refl _
    | cons b l ih =>
      intro m
      rw [ownF]
      have h1 := ih (if 0 < (offer1 rs b).most then ownS m (offer1 rs b) else m)
      have h2 : (if 0 < (offer1 rs b).most then ownS m (offer1 rs b) else m).length ≤ m.length + 1 := by
        have hp : ∀ (m : List (Int × BidV)) (k : Int) (v : BidV), (putL m k v).length ≤ m.length + 1 := by
          intro m k v
          have := congrArg List.length (putL_keys m k v)
          rw [List.length_map] at this
          rw [this]; split <;> simp
        split
        · unfold ownS
          by_cases hc : ownC m (offer1 rs b) = true
          · rw [if_pos hc]; exact hp _ _ _
          · rw [if_neg hc]; omega
        · omega
      rw [List.length_cons]; omega
  unfold offL
  rw [(srt_perm _).length_eq, List.length_map]
  have := key bs []
  simpa using this
theorem sell_off (rs : List Int) (st least : Int) (bs : List BidV) : sellP rs st least (offL rs bs) = knockF rs st least (offs rs bs) :=
  sell_eq (ownF_own rs bs) (srt_perm _) (srt_pw _) (fun _ h => offs_pos h)
/-- what the map's step asks -/
theorem own_V (own : List (Int × BidV)) (o : BidV) : (decide (0 < o.most) && ((!(getL own o.who).isSome) || beats o ((getL own o.who).getD default))) = true ↔ (0 < o.most ∧ ownC own o = true) := by
  rw [Bool.and_eq_true, decide_eq_true_eq]
  unfold ownC
  cases getL own o.who with
  | none => simp
  | some v => simp
theorem own_yes {own : List (Int × BidV)} {o : BidV} (h : (decide (0 < o.most) && ((!(getL own o.who).isSome) || beats o ((getL own o.who).getD default))) = true) : (if 0 < o.most then ownS own o else own) = putL own o.who o := by
  obtain ⟨h1, h2⟩ := (own_V own o).1 h
  rw [if_pos h1, ownS, if_pos h2]
theorem own_no {own : List (Int × BidV)} {o : BidV} (h : (decide (0 < o.most) && ((!(getL own o.who).isSome) || beats o ((getL own o.who).getD default))) = false) : (if 0 < o.most then ownS own o else own) = own := by
  by_cases h1 : 0 < o.most
  · rw [if_pos h1, ownS, if_neg]
    intro h2
    rw [(own_V own o).2 ⟨h1, h2⟩] at h; cases h
  · rw [if_neg h1]
theorem winR_bd {st rv : Int} {lad : List RiseV} (hok : LotOk st rv lad) {bs : List BidV} (hb : ∀ b ∈ bs, (0 ≤ b.who ∧ b.who ≤ 99) ∧ (0 ≤ b.way ∧ b.way ≤ 3) ∧ (1 ≤ b.most ∧ b.most ≤ 100000)) (n : Nat) : 0 ≤ (winR (rgL lad st) bs n).2 ∧ (winR (rgL lad st) bs n).2 ≤ 100000 := by
  rcases winR_spec (rgL lad st) bs (fun b h => (hb b h).2.1.2) (fun b h => (hb b h).1.1) n with ⟨_, e⟩ | ⟨⟨a, _, _⟩, b1, b2, _⟩
  · rw [e]; simp
  · have := (rgL_asc hok.lad hok.st.1).pos _ (offs_rung (rgL_asc hok.lad hok.st.1) a)
    omega
theorem winR_0 {rs : List Int} {bs : List BidV} {i : Nat} (h : (refOff rs bs i).most = 0) : winR rs bs (i + 1) = winR rs bs i := by rw [winR, if_pos h]
theorem winR_y {rs : List Int} {bs : List BidV} {i : Nat} (h : (refOff rs bs i).most ≠ 0) (hb : beats (refOff rs bs i) (winR rs bs i).1 = true) : winR rs bs (i + 1) = (refOff rs bs i, max (winR rs bs i).2 (winR rs bs i).1.most) := by rw [winR, if_neg h, if_pos hb]
theorem winR_n {rs : List Int} {bs : List BidV} {i : Nat} (h : (refOff rs bs i).most ≠ 0) (hb : beats (refOff rs bs i) (winR rs bs i).1 = false) : winR rs bs (i + 1) = ((winR rs bs i).1, max (winR rs bs i).2 (refOff rs bs i).most) := by rw [winR, if_neg h, if_neg (by rw [hb]; simp)]
theorem bids_comm (bs : List BidV) : (bs.all bid1 && decide ((bs.length : Int) ≤ 32)) = bidsB bs := Bool.and_comm ..
theorem knockR_no {lad : List RiseV} {start least : Int} {s : BidV × Int} (h : (((s.1.most == 0) || (least == 0)) || decide (s.1.most < least)) = true) : knockR lad start least s = ⟨-1, 0⟩ := by
  rw [knockR, if_pos]
  simp only [Bool.or_eq_true, beq_iff_eq, decide_eq_true_eq] at h
  omega
theorem knockR_yes {lad : List RiseV} {start least : Int} {s : BidV × Int} (h : (((s.1.most == 0) || (least == 0)) || decide (s.1.most < least)) = false) : knockR lad start least s = ⟨s.1.who, max least (priceR lad start s.1.most s.2)⟩ := by
  rw [knockR, if_neg]
  simp only [Bool.or_eq_false_iff, beq_eq_false_iff_ne, decide_eq_false_iff_not] at h
  omega
theorem rngO_bd {st rv : Int} {lad : List RiseV} (hok : LotOk st rv lad) (i : Int) (bs : List BidV) : 0 ≤ rngO i (rgL lad st) bs 0 ∧ rngO i (rgL lad st) bs 0 ≤ 100000 := by
  obtain ⟨h1, _, h3⟩ := rngO_spec i (rgL lad st) bs 0
  refine ⟨h1, ?_⟩
  rcases h3 with e | ⟨b, _, _, e⟩
  · omega
  · have := rung_bd hok b.most; unfold rungR at this; omega
theorem erase_perm : ∀ (left : List (Int × BidV)) (i : Nat) (p : Int × BidV), left[i]? = some p → ∀ outs : List BidV, ((outs ++ [p.2]) ++ (left.eraseIdx i).map (·.2)).Perm (outs ++ left.map (·.2)) := by
  intro left i p h outs
  have h1 : (p :: left.eraseIdx i).Perm left := by
    induction left generalizing i with
    | nil => simp at h
    | cons x l ih =>
      cases i with
      | zero => simp at h; subst h; exact .refl _
      | succ i =>
        simp at h
        exact (List.Perm.swap x p _).trans ((ih i h).cons x)
  rw [List.append_assoc]
  exact (h1.map (·.2)).append_left outs
theorem encBi_one (x : BidV) : ∀ v ∈ encBi x, v.oneCell' = true := fun v hv => by simp at hv; rcases hv with rfl | rfl | rfl <;> rfl
def SellV (st rv : Int) (lad : List RiseV) (bs : List BidV) : KnockV := if lotB st rv lad = true ∧ bidsB bs = true then knockF (rgL lad st) st (leastR st rv lad) (offs (rgL lad st) bs) else ⟨0, 0⟩
def SellE (st rv : Int) (lad : List RiseV) (bs : List BidV) : Int := if lotB st rv lad = true then (if bidsB bs = true then 0 else 61) else 60
theorem sell_no {st rv : Int} {lad : List RiseV} {bs : List BidV} (h : lotB st rv lad = false) : SellV st rv lad bs = ⟨0, 0⟩ ∧ SellE st rv lad bs = 60 := by unfold SellV SellE; rw [h]; simp
theorem sell_no2 {st rv : Int} {lad : List RiseV} {bs : List BidV} (h : lotB st rv lad = true) (h2 : bidsB bs = false) : SellV st rv lad bs = ⟨0, 0⟩ ∧ SellE st rv lad bs = 61 := by unfold SellV SellE; rw [h, h2]; simp
theorem sell_yes {st rv : Int} {lad : List RiseV} {bs : List BidV} (h : lotB st rv lad = true) (h2 : bidsB bs = true) : SellV st rv lad bs = sellP (rgL lad st) st (leastR st rv lad) (offL (rgL lad st) bs) ∧ SellE st rv lad bs = 0 := by unfold SellV SellE; rw [h, h2, sell_off]; simp
theorem rsell_yes {st rv : Int} {lad : List RiseV} {bs : List BidV} (h : lotB st rv lad = true) (h2 : bidsB bs = true) : SellV st rv lad bs = knockR lad st (leastR st rv lad) (winR (rgL lad st) bs 100) ∧ SellE st rv lad bs = 0 := by
  have hok := lot_ok h
  have hb := (bids_ok h2).2
  unfold SellV SellE
  rw [h, h2, sell_ref hok.lad hok.st.1 (fun b hb' => ⟨(hb b hb').1, (hb b hb').2.1.2⟩)]; simp
theorem sellP_no {rs : List Int} {st least : Int} {s : List BidV} (h : ((((s.length : Int) == 0) || (least == 0)) || decide ((s.getD (0 : Int).toNat default).most < least)) = true) : sellP rs st least s = ⟨-1, 0⟩ := by
  cases s with
  | nil => rfl
  | cons o t =>
    have h1 : (((o :: t).length : Int) == 0) = false := beq_eq_false_iff_ne.2 (by simp; omega)
    rw [h1] at h
    have h2 : least = 0 ∨ o.most < least := by simpa using h
    rw [sellP, if_pos h2]
theorem sellP_yes {rs : List Int} {st least : Int} {s : List BidV} (h : ((((s.length : Int) == 0) || (least == 0)) || decide ((s.getD (0 : Int).toNat default).most < least)) = false) : ∃ o t, s = o :: t ∧ sellP rs st least s = ⟨o.who, max least (priceF rs st o.most (secT t))⟩ := by
  cases s with
  | nil => simp at h
  | cons o t =>
    have h2 : ¬ (least = 0 ∨ o.most < least) := by
      simp only [Bool.or_eq_false_iff, beq_eq_false_iff_ne, decide_eq_false_iff_not] at h
      rintro (e | e)
      · exact h.1.2 e
      · exact h.2 e
    exact ⟨o, t, rfl, by rw [sellP, if_neg h2]⟩
theorem roomG_drop (rs : List Int) (st : Int) (bs : List BidV) (k : Nat) (b : BidV) (x : LeadV) (h : bs[k]? = some b) : roomG rs st x (bs.drop k) = roomS rs st x b :: roomG rs st (roomS rs st x b) (bs.drop (k + 1)) := by
  obtain ⟨h1, h2⟩ := List.getElem?_eq_some_iff.1 h
  rw [List.drop_eq_getElem_cons h1, h2, roomG]
theorem roomE_take (rs : List Int) (st : Int) (bs : List BidV) (k : Nat) (b : BidV) (h : bs[k]? = some b) : roomE rs st (bs.take (k + 1)) = roomS rs st (roomE rs st (bs.take k)) b := by
  unfold roomE
  rw [List.take_add_one, h, List.foldl_append]; rfl
def RoomL (st rv : Int) (lad : List RiseV) (bs : List BidV) : List LeadV := if lotB st rv lad = true ∧ bidsB bs = true then roomG (rgL lad st) st lead0 bs else []
theorem room_no {st rv : Int} {lad : List RiseV} {bs : List BidV} (h : lotB st rv lad = false) : RoomL st rv lad bs = [] ∧ SellE st rv lad bs = 60 := by unfold RoomL SellE; rw [h]; simp
theorem room_no2 {st rv : Int} {lad : List RiseV} {bs : List BidV} (h : lotB st rv lad = true) (h2 : bidsB bs = false) : RoomL st rv lad bs = [] ∧ SellE st rv lad bs = 61 := by unfold RoomL SellE; rw [h, h2]; simp
theorem room_yes {st rv : Int} {lad : List RiseV} {bs : List BidV} (h : lotB st rv lad = true) (h2 : bidsB bs = true) : RoomL st rv lad bs = roomG (rgL lad st) st lead0 bs ∧ SellE st rv lad bs = 0 := by unfold RoomL SellE; rw [h, h2]; simp
theorem encLe_one (x : LeadV) : ∀ v ∈ encLe x, v.oneCell' = true := fun v hv => by simp at hv; rcases hv with rfl | rfl | rfl | rfl | rfl <;> rfl
/-- the reference's bid -/
def roomRr (st : Int) (lad : List RiseV) (x : LeadV) (b : BidV) : LeadV := if rungR st lad b.most = 0 then x else stepR lad st x (offer1 (rgL lad st) b)
def stepB (lad : List RiseV) (st : Int) (x : LeadV) (who way r : Int) : LeadV :=
  let y : LeadV := if x.who = -1 then ⟨who, r, way, x.second, x.price⟩
    else if x.who = who then (if x.limit < r ∨ r = x.limit ∧ way < x.way then ⟨x.who, r, way, x.second, x.price⟩ else x)
    else if beats ⟨who, way, r⟩ ⟨x.who, x.way, x.limit⟩ then ⟨who, r, way, x.limit, x.price⟩
    else ⟨x.who, x.limit, x.way, max x.second r, x.price⟩
  ⟨y.who, y.limit, y.way, y.second, priceR lad st y.limit y.second⟩
theorem roomRr_B (st : Int) (lad : List RiseV) (x : LeadV) (b : BidV) : roomRr st lad x b = if rungR st lad b.most = 0 then x else stepB lad st x b.who b.way (rungR st lad b.most) := rfl
theorem lead_bd {st rv : Int} {lad : List RiseV} (hok : LotOk st rv lad) {bs : List BidV} (hb : ∀ b ∈ bs, 0 ≤ b.who ∧ b.who ≤ 99) {k : Nat} (hk : k ≤ bs.length) : (0 ≤ (roomE (rgL lad st) st (bs.take k)).limit ∧ (roomE (rgL lad st) st (bs.take k)).limit ≤ 100000) ∧ (0 ≤ (roomE (rgL lad st) st (bs.take k)).second ∧ (roomE (rgL lad st) st (bs.take k)).second ≤ 100000) := by
  rcases room_is (rs := rgL lad st) (start := st) bs hb k hk with ⟨_, e⟩ | ⟨W, hW, _, a2, _, _, a0, a5, _⟩
  · rw [e]; simp [lead0]
  · have := (rgL_asc hok.lad hok.st.1).pos _ (offs_rung (rgL_asc hok.lad hok.st.1) hW.mem)
    omega
theorem room_step {st rv : Int} {lad : List RiseV} (hok : LotOk st rv lad) {bs : List BidV} (hb : ∀ b ∈ bs, 0 ≤ b.who ∧ b.who ≤ 99) {k : Nat} {b : BidV} (hx : bs[k]? = some b) : roomRr st lad (roomE (rgL lad st) st (bs.take k)) b = roomS (rgL lad st) st (roomE (rgL lad st) st (bs.take k)) b := by
  have ha := rgL_asc hok.lad hok.st.1
  have hk := (List.getElem?_eq_some_iff.1 hx).1
  have hbd := rung_bd hok b.most
  unfold roomRr roomS
  by_cases h0 : rungR st lad b.most = 0
  · rw [if_pos h0, if_neg (by unfold offer1; simp only; unfold rungR at h0; omega)]
  · have h1 : 0 < (offer1 (rgL lad st) b).most := by unfold offer1; simp only; unfold rungR at h0 hbd; omega
    rw [if_neg h0, if_pos h1]
    refine step_eq hok.lad hok.st.1 (room_is bs hb k (by omega)) ?_ (hb b (List.mem_of_getElem? hx)).1 (fun q hq => offs_rung ha hq) (fun q hq => (offs_who (fun c hc => hb c (List.mem_of_mem_take hc)) hq).1)
    rcases rungF_spec (n := b.most) (rgL lad st) 0 ha with ⟨e, _⟩ | ⟨e, _⟩
    · exact absurd e h0
    · exact e
end Go.Proofs.Ytehmifpofpifkaa
namespace Go.Proofs.Ytehmifpofpifkaa
open Go.Sx Go.RowKit Am
set_option maxRecDepth 20000
theorem k_clB (b : BidV) (w : World)  : Calls Try.prog 92 #[evB b] w (fun e w' => e = .returned (.bool (!(bid1 b))) ∧ Grow w w') := by
  refine enter_pure (args := [evB b]) [] Try.func92 rfl (by rw [Try.ntmps92]; simp) (by simp) ?_
  refine cj_seq (cj_region ?_)
  refine oj_box rfl rfl rfl (fun b1 => ?_)
  refine oj_step (y_assign rfl) rfl rfl rfl ?_
  refine oj_nil ?_
  refine ej_th (cj_seq ?_)
  refine cj_regionG ?_
  refine gj_step (y_fa0 fa53_0 rfl) rfl rfl rfl (gj_step (y_load1 Try.isAgg3 rfl rfl) rfl rfl rfl (?_))
  refine gj_step (y_call Try.call49 rfl (fun w hp => k_within _ _ _ w)) rfl rfl rfl ?_
  refine gj_step (y_not rfl) rfl rfl rfl (gj_step (y_move rfl) rfl rfl rfl (?_))
  refine gj_g 4 7 11 rfl rfl rfl rfl (fun hg7 => gj_yes rfl rfl rfl (y_fa fa53_1 rfl) rfl rfl (gj_yes rfl rfl rfl (y_load1 Try.isAgg3 rfl rfl) rfl rfl (gj_yes rfl rfl rfl (y_call Try.call49 rfl (fun w hp => k_within _ _ _ w)) rfl rfl (gj_yes rfl rfl rfl (y_not rfl) rfl rfl (gj_nil rfl))))) ?_
  refine gj_step (y_or rfl rfl rfl) rfl rfl rfl (gj_step (y_move rfl) rfl rfl rfl (?_))
  refine gj_g 4 13 17 rfl rfl rfl rfl (fun hg13 => gj_yes rfl rfl rfl (y_fa fa53_2 rfl) rfl rfl (gj_yes rfl rfl rfl (y_load1 Try.isAgg3 rfl rfl) rfl rfl (gj_yes rfl rfl rfl (y_call Try.call49 rfl (fun w hp => k_within _ _ _ w)) rfl rfl (gj_yes rfl rfl rfl (y_not rfl) rfl rfl (gj_nil rfl))))) ?_
  refine gj_step (y_or rfl rfl rfl) rfl rfl rfl (gj_step (y_assign rfl) rfl rfl rfl (?_))
  refine gj_nil ?_
  refine ej_th (cj_ret ?_)
  refine ej_ret1 rfl Try.results92 rfl (fun w' hp => ⟨?_, hp.below⟩)
  rw [← bid1_V b]

theorem k_IndexB (l : List BidV) (A : Option Addr) (c : Nat) (w : World) (hl : Rd w 3 encBi A l) : Calls Try.prog 106 #[.slice A l.length c, .func (.func 92) #[] #[]] w (fun e w' => e = .returned (.int .i64 (firstNo bid1 l 0)) ∧ Grow w w') := by
  have hlen := hl.len
  refine enter_pure (args := [.slice A l.length c, .func (.func 92) #[] #[]]) [sl (fun b => b < w.heap.size) 3 encBi A l] Try.func106 rfl (by rw [Try.ntmps106]; simp) (fun g hg => by simp at hg; subst hg; exact ⟨hl, fun _ h => h⟩) ?_
  refine cj_seq ?_
  refine cj_regionG (gj_step (y_assign rfl) rfl rfl rfl (gj_nil ?_))
  refine ej_th (cj_seq (cj_seq ?_))
  refine cj_regionG (gj_step (y_move rfl) rfl rfl rfl (gj_step (y_lenA Try.underlying32 rfl) rfl rfl rfl (gj_step (y_move rfl) rfl rfl rfl (gj_nil ?_))))
  refine ej_th (cj_block ?_)
  refine cj_lpic (X := Nat) [(0, _), (1, _), (7, _)] (fun k => k ≤ l.length ∧ firstNo bid1 (l.drop k) k = firstNo bid1 l 0) (fun k => [(8, .int .i64 k)]) (fun k => l.length - k) 0 (⟨Nat.zero_le _, rfl⟩) ⟨rfl, rfl, rfl, rfl, trivial⟩ ?_
  rintro k ⟨hk, hsk⟩
  dsimp only [List.cons_append, List.nil_append]
  refine cj_seq ?_
  refine cj_regionG (gj_step (y_lss rfl rfl) rfl rfl rfl (gj_nil ?_))
  refine ej_th (cj_seq ?_)
  refine cj_cond rfl (fun h9 => ?_) (fun h9 => ?_)
  · have h9b := h9
    try simp only [sxb] at h9
    obtain ⟨x, hx⟩ : ∃ x, l[k]? = some x := ⟨_, List.getElem?_eq_getElem (by omega)⟩
    rw [firstNo_drop bid1 l k x hx] at hsk
    refine cj_skip (ej_th (cj_seq (cj_block (cj_seq ?_))))
    refine cj_regionG (gj_step (y_move rfl) rfl rfl rfl (gj_step (y_assign rfl) rfl rfl rfl (gj_nil ?_)))
    refine ej_th (cj_seq ?_)
    refine cj_regionG ?_
    refine gj_step (y_move rfl) rfl rfl rfl (gj_step (y_move rfl) rfl rfl rfl (gj_step (y_move rfl) rfl rfl rfl (gj_step (y_ixR (reads_sl) Try.underlying32 Try.sizeOf53 rfl rfl (⟨by omega, by omega⟩)) rfl rfl rfl (gj_step (y_ldW (reads_sl) Try.isAgg53 Try.sizeOf53 rfl (hx) (fun _ => rfl)) rfl rfl rfl (?_)))))
    refine gj_step (y_callV Try.call92 rfl rfl (fun w hp => k_clB x w)) rfl rfl rfl ?_
    refine gj_nil ?_
    refine ej_th ?_
    refine cj_cond rfl (fun h16 => ?_) (fun h16 => ?_)
    · have h16b := h16
      try simp only [sxb] at h16
      refine cj_seq ?_
      refine cj_regionG (gj_step (y_move rfl) rfl rfl rfl (gj_step (y_assign rfl) rfl rfl rfl (gj_nil ?_)))
      refine ej_th (cj_ret (ej_blk_ret (ej_then_ret (ej_then_ret (ej_blk_ret (ej_then_ret ?_))))))
      refine ej_ret1 rfl Try.results106 rfl (fun w' hp => ⟨?_, hp.below⟩)
      rw [← hsk, if_neg (by rw [not_t h16b]; simp)]
    · have h16b := h16
      try simp only [sxb] at h16
      refine cj_skip (ej_blk (ej_th ?_))
      refine cj_regionG (gj_step (y_add rfl rfl (by omega)) rfl rfl rfl (gj_step (y_move rfl) rfl rfl rfl (gj_nil ?_)))
      exact ej_nx (k + 1) (by omega) ⟨by omega, by rw [← hsk, if_pos (not_f h16b)]⟩ ⟨rfl, rfl, rfl, rfl, trivial⟩
  · have h9b := h9
    try simp only [sxb] at h9
    refine cj_exit (ej_then_exit (ej_then_exit (ej_blk_hit (ej_th (cj_seq ?_)))))
    refine cj_regionG (gj_step (y_assign rfl) rfl rfl rfl (gj_nil ?_))
    refine ej_th (cj_ret ?_)
    refine ej_ret1 rfl Try.results106 rfl (fun w' hp => ⟨?_, hp.below⟩)
    rw [← hsk, List.drop_of_length_le (by omega)]; rfl

theorem k_ContB (l : List BidV) (A : Option Addr) (c : Nat) (w : World) (hl : Rd w 3 encBi A l) : Calls Try.prog 91 #[.slice A l.length c, .func (.func 92) #[] #[]] w (fun e w' => e = .returned (.bool (!(l.all bid1))) ∧ Grow w w') := by
  refine enter_pure (args := [.slice A l.length c, .func (.func 92) #[] #[]]) [sl (fun b => b < w.heap.size) 3 encBi A l] Try.func91 rfl (by rw [Try.ntmps91]; simp) (fun g hg => by simp at hg; subst hg; exact ⟨hl, fun _ h => h⟩) ?_
  refine cj_seq ?_
  refine cj_regionG (gj_step (y_assign rfl) rfl rfl rfl (gj_nil ?_))
  refine ej_th (cj_seq ?_)
  refine cj_regionG ?_
  refine gj_step (y_move rfl) rfl rfl rfl (gj_step (y_move rfl) rfl rfl rfl (?_))
  refine gj_step (y_call Try.call106 rfl (fun w hp => k_IndexB l A c w hp.rd)) rfl rfl rfl ?_
  refine gj_step (y_geq rfl rfl) rfl rfl rfl (gj_step (y_assign rfl) rfl rfl rfl (?_))
  refine gj_nil ?_
  refine ej_th (cj_ret ?_)
  refine ej_ret1 rfl Try.results91 rfl (fun w' hp => ⟨?_, hp.below⟩)
  rw [firstNo_all bid1 l]

theorem k_bids (bs : List BidV) (Ab : Option Addr) (cb : Nat) (w : World) (hbs : Rd w 3 encBi Ab bs) : Calls Try.prog 53 #[.slice Ab bs.length cb] w (fun e w' => e = .returned (.bool (bidsB bs)) ∧ Grow w w') := by
  refine enter_pure (args := [.slice Ab bs.length cb]) [sl (fun b => b < w.heap.size) 3 encBi Ab bs] Try.func53 rfl (by rw [Try.ntmps53]; simp) (fun g hg => by simp at hg; subst hg; exact ⟨hbs, fun _ h => h⟩) ?_
  refine cj_seq ?_
  refine cj_regionG (gj_step (y_assign rfl) rfl rfl rfl (gj_nil ?_))
  refine ej_th (cj_seq ?_)
  refine cj_regionG ?_
  refine gj_step (y_move rfl) rfl rfl rfl (gj_step (y_lenA Try.underlying32 rfl) rfl rfl rfl (gj_step (y_leq rfl rfl) rfl rfl rfl (gj_step (y_move rfl) rfl rfl rfl (?_))))
  refine gj_g 3 6 9 rfl rfl rfl rfl (fun hg6 => gj_yes rfl rfl rfl (y_move rfl) rfl rfl (gj_yes rfl rfl rfl (y_call Try.call91 rfl (fun w hp => k_ContB bs Ab cb w hp.rd)) rfl rfl (gj_yes rfl rfl rfl (y_not rfl) rfl rfl (gj_nil rfl)))) ?_
  refine gj_step (y_and rfl rfl rfl) rfl rfl rfl (gj_step (y_assign rfl) rfl rfl rfl (?_))
  refine gj_nil ?_
  refine ej_th (cj_ret ?_)
  refine ej_ret1 rfl Try.results53 rfl (fun w' hp => ⟨?_, hp.below⟩)
  rw [Bool.not_not]; rfl

theorem k_beats (a b : BidV) (w : World)  : Calls Try.prog 93 #[evB a, evB b] w (fun e w' => e = .returned (.bool (beats a b)) ∧ Grow w w') := by
  refine enter_pure (args := [evB a, evB b]) [] Try.func93 rfl (by rw [Try.ntmps93]; simp) (by simp) ?_
  refine cj_seq (cj_region ?_)
  refine oj_box rfl rfl rfl (fun b2 => ?_)
  refine oj_box rfl rfl rfl (fun b3 => ?_)
  refine oj_step (y_assign rfl) rfl rfl rfl ?_
  refine oj_nil ?_
  refine ej_th (cj_seq (cj_seq ?_))
  refine cj_regionG (gj_step (y_fa0 fa93_0 rfl) rfl rfl rfl (gj_step (y_fa fa53_2 rfl) rfl rfl rfl (gj_step (y_load1 Try.isAgg3 rfl rfl) rfl rfl rfl (gj_step (y_fa0 fa93_0 rfl) rfl rfl rfl (gj_step (y_fa fa53_2 rfl) rfl rfl rfl (gj_step (y_load1 Try.isAgg3 rfl rfl) rfl rfl rfl (gj_step (y_neq rfl rfl) rfl rfl rfl (gj_nil ?_))))))))
  refine ej_th ?_
  refine cj_cond rfl (fun h11 => ?_) (fun h11 => ?_)
  · have h11b := h11
    try simp only [sxb] at h11
    refine cj_seq ?_
    refine cj_regionG (gj_step (y_fa0 fa93_0 rfl) rfl rfl rfl (gj_step (y_fa fa53_2 rfl) rfl rfl rfl (gj_step (y_load1 Try.isAgg3 rfl rfl) rfl rfl rfl (gj_step (y_fa0 fa93_0 rfl) rfl rfl rfl (gj_step (y_fa fa53_2 rfl) rfl rfl rfl (gj_step (y_load1 Try.isAgg3 rfl rfl) rfl rfl rfl (gj_step (y_gtr rfl rfl) rfl rfl rfl (gj_step (y_assign rfl) rfl rfl rfl (gj_nil ?_)))))))))
    refine ej_th (cj_ret (ej_then_ret ?_))
    refine ej_ret1 rfl Try.results93 rfl (fun w' hp => ⟨?_, hp.below⟩)
    unfold beats; rw [if_neg (by simpa using h11b)]
  · have h11b := h11
    try simp only [sxb] at h11
    refine cj_skip (ej_th (cj_seq (cj_seq ?_)))
    refine cj_regionG (gj_step (y_fa0 fa93_0 rfl) rfl rfl rfl (gj_step (y_fa fa53_1 rfl) rfl rfl rfl (gj_step (y_load1 Try.isAgg3 rfl rfl) rfl rfl rfl (gj_step (y_fa0 fa93_0 rfl) rfl rfl rfl (gj_step (y_fa fa53_1 rfl) rfl rfl rfl (gj_step (y_load1 Try.isAgg3 rfl rfl) rfl rfl rfl (gj_step (y_neq rfl rfl) rfl rfl rfl (gj_nil ?_))))))))
    refine ej_th ?_
    refine cj_cond rfl (fun h25 => ?_) (fun h25 => ?_)
    · have h25b := h25
      try simp only [sxb] at h25
      refine cj_seq ?_
      refine cj_regionG (gj_step (y_fa0 fa93_0 rfl) rfl rfl rfl (gj_step (y_fa fa53_1 rfl) rfl rfl rfl (gj_step (y_load1 Try.isAgg3 rfl rfl) rfl rfl rfl (gj_step (y_fa0 fa93_0 rfl) rfl rfl rfl (gj_step (y_fa fa53_1 rfl) rfl rfl rfl (gj_step (y_load1 Try.isAgg3 rfl rfl) rfl rfl rfl (gj_step (y_lss rfl rfl) rfl rfl rfl (gj_step (y_assign rfl) rfl rfl rfl (gj_nil ?_)))))))))
      refine ej_th (cj_ret (ej_then_ret ?_))
      refine ej_ret1 rfl Try.results93 rfl (fun w' hp => ⟨?_, hp.below⟩)
      unfold beats; rw [if_pos (by simpa using h11b), if_neg (by simpa using h25b)]
    · have h25b := h25
      try simp only [sxb] at h25
      refine cj_skip (ej_th (cj_seq ?_))
      refine cj_regionG (gj_step (y_fa0 fa93_0 rfl) rfl rfl rfl (gj_step (y_fa0 fa53_0 rfl) rfl rfl rfl (gj_step (y_load1 Try.isAgg3 rfl rfl) rfl rfl rfl (gj_step (y_fa0 fa93_0 rfl) rfl rfl rfl (gj_step (y_fa0 fa53_0 rfl) rfl rfl rfl (gj_step (y_load1 Try.isAgg3 rfl rfl) rfl rfl rfl (gj_step (y_lss rfl rfl) rfl rfl rfl (gj_step (y_assign rfl) rfl rfl rfl (gj_nil ?_)))))))))
      refine ej_th (cj_ret ?_)
      refine ej_ret1 rfl Try.results93 rfl (fun w' hp => ⟨?_, hp.below⟩)
      unfold beats; rw [if_pos (by simpa using h11b), if_pos (by simpa using h25b)]

theorem k_largest (a b : Int) (w : World)  : Calls Try.prog 55 #[.int .i64 a, .int .i64 b] w (fun e w' => e = .returned (.int .i64 (max a b)) ∧ Grow w w') := by
  refine enter_pure (args := [.int .i64 a, .int .i64 b]) [] Try.func55 rfl (by rw [Try.ntmps55]; simp) (by simp) ?_
  refine cj_seq ?_
  refine cj_regionG (gj_step (y_assign rfl) rfl rfl rfl (gj_nil ?_))
  refine ej_th (cj_seq (cj_seq ?_))
  refine cj_regionG (gj_step (y_move rfl) rfl rfl rfl (gj_step (y_move rfl) rfl rfl rfl (gj_step (y_gtr rfl rfl) rfl rfl rfl (gj_nil ?_))))
  refine ej_th ?_
  refine cj_cond rfl (fun h7 => ?_) (fun h7 => ?_)
  · have h7b := h7
    try simp only [sxb] at h7
    refine cj_seq ?_
    refine cj_regionG (gj_step (y_move rfl) rfl rfl rfl (gj_step (y_assign rfl) rfl rfl rfl (gj_nil ?_)))
    refine ej_th (cj_ret (ej_then_ret ?_))
    refine ej_ret1 rfl Try.results55 rfl (fun w' hp => ⟨?_, hp.below⟩)
    rw [show max a b = b by omega]
  · have h7b := h7
    try simp only [sxb] at h7
    refine cj_skip (ej_th (cj_seq ?_))
    refine cj_regionG (gj_step (y_move rfl) rfl rfl rfl (gj_step (y_assign rfl) rfl rfl rfl (gj_nil ?_)))
    refine ej_th (cj_ret ?_)
    refine ej_ret1 rfl Try.results55 rfl (fun w' hp => ⟨?_, hp.below⟩)
    rw [show max a b = a by omega]

theorem k_price (st rv : Int) (lad : List RiseV) (Al : Option Addr) (cl : Nat) (limit second : Int) (w : World) (hlad : Rd w 2 encRi Al lad) (hok : LotOk st rv lad) : Calls Try.prog 56 #[.agg #[.int .i64 st, .int .i64 rv, .slice Al lad.length cl], .int .i64 limit, .int .i64 second] w (fun e w' => e = .returned (.int .i64 (priceF (rgL lad st) st limit second)) ∧ Grow w w') := by
  refine enter_pure (args := [.agg #[.int .i64 st, .int .i64 rv, .slice Al lad.length cl], .int .i64 limit, .int .i64 second]) [sl (fun b => b < w.heap.size) 2 encRi Al lad] Try.func56 rfl (by rw [Try.ntmps56]; simp) (fun g hg => by simp at hg; subst hg; exact ⟨hlad, fun _ h => h⟩) ?_
  refine cj_seq (cj_region ?_)
  refine oj_box rfl rfl rfl (fun b3 => ?_)
  refine oj_step (y_assign rfl) rfl rfl rfl ?_
  refine oj_nil ?_
  refine ej_th (cj_seq (cj_seq ?_))
  refine cj_regionG (gj_step (y_move rfl) rfl rfl rfl (gj_nil ?_))
  refine ej_th (cj_block (cj_seq ?_))
  refine cj_regionG (gj_step (y_move rfl) rfl rfl rfl (gj_step (y_eql rfl rfl) rfl rfl rfl (gj_step (y_assign rfl) rfl rfl rfl (gj_nil ?_))))
  refine ej_th ?_
  refine cj_cond rfl (fun h8 => ?_) (fun h8 => ?_)
  · have h8b := h8
    try simp only [sxb] at h8
    refine cj_seq ?_
    refine cj_regionG (gj_step (y_move rfl) rfl rfl rfl (gj_step (y_assign rfl) rfl rfl rfl (gj_nil ?_)))
    refine ej_th (cj_ret (ej_blk_ret (ej_then_ret ?_)))
    refine ej_ret1 rfl Try.results56 rfl (fun w' hp => ⟨?_, hp.below⟩)
    rw [priceF, if_pos (by simpa using h8b)]
  · have h8b := h8
    try simp only [sxb] at h8
    refine cj_seq ?_
    refine cj_regionG (gj_step (y_eql rfl rfl) rfl rfl rfl (gj_step (y_assign rfl) rfl rfl rfl (gj_nil ?_)))
    refine ej_th ?_
    refine cj_cond rfl (fun h12 => ?_) (fun h12 => ?_)
    · have h12b := h12
      try simp only [sxb] at h12
      refine cj_seq ?_
      refine cj_regionG (gj_step (y_fa0 fa85_0 rfl) rfl rfl rfl (gj_step (y_fa0 fa24_0 rfl) rfl rfl rfl (gj_step (y_load1 Try.isAgg3 rfl rfl) rfl rfl rfl (gj_step (y_assign rfl) rfl rfl rfl (gj_nil ?_)))))
      refine ej_th (cj_ret (ej_blk_ret (ej_then_ret ?_)))
      refine ej_ret1 rfl Try.results56 rfl (fun w' hp => ⟨?_, hp.below⟩)
      rw [priceF, if_neg (by simpa using h8b), if_pos (by simpa using h12b)]
    · have h12b := h12
      try simp only [sxb] at h12
      refine cj_skip (ej_blk (ej_th (cj_seq ?_)))
      refine cj_regionG ?_
      refine gj_step (y_loadN Try.isAgg85 Try.sizeOf85 rfl) rfl rfl rfl (gj_step (y_move rfl) rfl rfl rfl (?_))
      refine gj_step (y_call Try.call50 rfl (fun w hp => k_behind st rv lad Al cl second w hp.rd hok)) rfl rfl rfl ?_
      refine gj_step (y_assign rfl) rfl rfl rfl (?_)
      refine gj_nil ?_
      refine ej_th (cj_ret ?_)
      refine ej_ret1 rfl Try.results56 rfl (fun w' hp => ⟨?_, hp.below⟩)
      rw [priceF, if_neg (by simpa using h8b), if_neg (by simpa using h12b)]

theorem k_offer (st rv : Int) (lad : List RiseV) (Al : Option Addr) (cl : Nat) (b : BidV) (w : World) (hlad : Rd w 2 encRi Al lad) (hok : LotOk st rv lad) : Calls Try.prog 63 #[.agg #[.int .i64 st, .int .i64 rv, .slice Al lad.length cl], evB b] w (fun e w' => e = .returned (.tuple #[evB (offer1 (rgL lad st) b), .bool (decide (0 < (offer1 (rgL lad st) b).most))]) ∧ Grow w w') := by
  refine enter_pure (args := [.agg #[.int .i64 st, .int .i64 rv, .slice Al lad.length cl], evB b]) [sl (fun b => b < w.heap.size) 2 encRi Al lad] Try.func63 rfl (by rw [Try.ntmps63]; simp) (fun g hg => by simp at hg; subst hg; exact ⟨hlad, fun _ h => h⟩) ?_
  refine cj_seq (cj_region ?_)
  refine oj_box rfl rfl rfl (fun b2 => ?_)
  refine oj_box rfl rfl rfl (fun b3 => ?_)
  refine oj_alloc Try.zeroValue93 rfl rfl (fun b4 => ?_)
  refine oj_step (y_assign rfl) rfl rfl rfl ?_
  refine oj_nil ?_
  refine ej_th (cj_seq (cj_region ?_))
  refine oj_step (y_loadN Try.isAgg85 Try.sizeOf85 rfl) rfl rfl rfl ?_
  refine oj_step (y_fa fa53_2 rfl) rfl rfl rfl ?_
  refine oj_step (y_load1 Try.isAgg3 rfl rfl) rfl rfl rfl ?_
  refine oj_step (y_call Try.call47 rfl (fun w hp => k_rung st rv lad Al cl b.most w hp.rd hok)) rfl rfl rfl ?_
  refine oj_step (y_fa fa53_2 rfl) rfl rfl rfl ?_
  refine oj_store rfl rfl rfl rfl Try.sizeOf3 rfl ?_
  refine oj_nil ?_
  refine ej_th (cj_seq ?_)
  refine cj_plan 7 (by kernel_rfl) (by kernel_rfl) ?_
  refine pl_y 0 rfl (y_loadN Try.isAgg53 Try.sizeOf53 rfl) rfl rfl rfl rfl (by kernel_rfl) ?_
  refine pl_y 1 rfl (y_build (cs := [.int .i64 b.who, .int .i64 b.way, .int .i64 (rungR st lad b.most)]) st93 rfl (by kernel_rfl)) rfl rfl rfl rfl (by kernel_rfl) ?_
  refine pl_y 2 rfl (y_fa fa53_2 rfl) rfl rfl rfl rfl (by kernel_rfl) ?_
  refine pl_y 3 rfl (y_load1 Try.isAgg3 rfl rfl) rfl rfl rfl rfl (by kernel_rfl) ?_
  refine pl_y 4 rfl (y_gtr rfl rfl) rfl rfl rfl rfl (by kernel_rfl) ?_
  refine pl_w1 5 (by kernel_rfl) rfl rfl (pl_fire rfl rfl rfl (by kernel_rfl) ?_)
  refine oj_store rfl rfl rfl rfl Try.sizeOf93 rfl ?_
  refine oj_nil ?_
  refine ej_pl (lt_y (y_gtr rfl rfl) rfl (lt_y (y_load1 Try.isAgg3 rfl rfl) rfl (lt_y (y_fa fa53_2 rfl) rfl (lt_w (by kernel_rfl) (lt_w (by kernel_rfl) (lt_nil)))))) ?_
  refine pl_y 6 rfl (y_assign rfl) rfl rfl rfl rfl (by kernel_rfl) ?_
  refine pl_end (by kernel_rfl) ?_
  refine ej_th (cj_ret ?_)
  exact ej_retC2 rfl Try.results63 rfl (y_loadN Try.isAgg93 Try.sizeOf93 rfl) rfl (fun w' hp => ⟨rfl, hp.below⟩)

def sortO_laid_ren : Go.Shelf.Ren := ⟨fun | 6 => 94 | 15 => 100 | 14 => 107 | 28 => 116 | 29 => 117 | 20 => 118 | 21 => 119 | 22 => 120 | 23 => 121 | 24 => 122 | 25 => 123 | 26 => 124 | 27 => 125 | 46 => 131 | 47 => 127 | 48 => 128 | 49 => 132 | 50 => 133 | 57 => 135 | n => n, fun | 22 => 90 | 24 => 93 | 25 => 133 | 3 => 3 | 39 => 111 | 0 => 0 | 53 => 136 | 55 => 138 | 4 => 4 | 46 => 147 | 45 => 146 | 50 => 49 | 5 => 5 | 9 => 9 | 66 => 157 | 70 => 161 | 76 => 165 | 77 => 166 | n => n, fun n => n⟩
theorem sortO_laid : Go.Proofs.SlLaysF0.n6 Try.prog sortO_laid_ren where
  mixed := by kernel_rfl
  f6 := ⟨Try.f94.name, by kernel_rfl, Try.func94.trans (congrArg some (by kernel_rfl))⟩
  f14 := ⟨Try.f107.name, by kernel_rfl, Try.func107.trans (congrArg some (by kernel_rfl))⟩
  f15 := Try.func100.trans (congrArg some (by kernel_rfl))
  f20 := ⟨Try.f118.name, by kernel_rfl, Try.func118.trans (congrArg some (by kernel_rfl))⟩
  f21 := ⟨Try.f119.name, by kernel_rfl, Try.func119.trans (congrArg some (by kernel_rfl))⟩
  f22 := ⟨Try.f120.name, by kernel_rfl, Try.func120.trans (congrArg some (by kernel_rfl))⟩
  f23 := ⟨Try.f121.name, by kernel_rfl, Try.func121.trans (congrArg some (by kernel_rfl))⟩
  f24 := ⟨Try.f122.name, by kernel_rfl, Try.func122.trans (congrArg some (by kernel_rfl))⟩
  f25 := ⟨Try.f123.name, by kernel_rfl, Try.func123.trans (congrArg some (by kernel_rfl))⟩
  f26 := ⟨Try.f124.name, by kernel_rfl, Try.func124.trans (congrArg some (by kernel_rfl))⟩
  f27 := ⟨Try.f125.name, by kernel_rfl, Try.func125.trans (congrArg some (by kernel_rfl))⟩
  f28 := Try.func116.trans (congrArg some (by kernel_rfl))
  f29 := Try.func117.trans (congrArg some (by kernel_rfl))
  f46 := ⟨Try.f131.name, by kernel_rfl, Try.func131.trans (congrArg some (by kernel_rfl))⟩
  f47 := Try.func127.trans (congrArg some (by kernel_rfl))
  f48 := Try.func128.trans (congrArg some (by kernel_rfl))
  f49 := ⟨Try.f132.name, by kernel_rfl, Try.func132.trans (congrArg some (by kernel_rfl))⟩
  f50 := ⟨Try.f133.name, by kernel_rfl, Try.func133.trans (congrArg some (by kernel_rfl))⟩
  f57 := ⟨Try.f135.name, by kernel_rfl, Try.func135.trans (congrArg some (by kernel_rfl))⟩
  t0 := Try.underlying0
  a0 := Try.isAgg0
  z0 := Try.sizeOf0
  v0 := Try.zeroValue0
  t3 := Try.underlying3
  a3 := Try.isAgg3
  z3 := Try.sizeOf3
  v3 := Try.zeroValue3
  t4 := Try.underlying4
  a4 := Try.isAgg4
  z4 := Try.sizeOf4
  v4 := Try.zeroValue4
  t5 := Try.underlying5
  a5 := Try.isAgg5
  z5 := Try.sizeOf5
  v5 := Try.zeroValue5
  t9 := Try.underlying9
  a9 := Try.isAgg9
  z9 := Try.sizeOf9
  v9 := Try.zeroValue9
  t22 := Try.underlying90
  a22 := Try.isAgg90
  z22 := Try.sizeOf90
  v22 := Try.zeroValue90
  t25 := Try.underlying133
  a25 := Try.isAgg133
  z25 := Try.sizeOf133
  v25 := Try.zeroValue133
  t39 := Try.underlying111
  a39 := Try.isAgg111
  z39 := Try.sizeOf111
  v39 := Try.zeroValue111
  t45 := Try.underlying146
  a45 := Try.isAgg146
  z45 := Try.sizeOf146
  v45 := Try.zeroValue146
  t46 := Try.underlying147
  a46 := Try.isAgg147
  z46 := Try.sizeOf147
  v46 := Try.zeroValue147
  t50 := Try.underlying49
  a50 := Try.isAgg49
  z50 := Try.sizeOf49
  v50 := Try.zeroValue49
  t53 := Try.underlying136
  a53 := Try.isAgg136
  z53 := Try.sizeOf136
  v53 := Try.zeroValue136
  t55 := Try.underlying138
  a55 := Try.isAgg138
  z55 := Try.sizeOf138
  v55 := Try.zeroValue138
  t66 := Try.underlying157
  a66 := Try.isAgg157
  z66 := Try.sizeOf157
  v66 := Try.zeroValue157
  t70 := Try.underlying161
  a70 := Try.isAgg161
  z70 := Try.sizeOf161
  v70 := Try.zeroValue161
  t76 := Try.underlying165
  a76 := Try.isAgg165
  z76 := Try.sizeOf165
  v76 := Try.zeroValue165
  t77 := Try.underlying166
  a77 := Try.isAgg166
  z77 := Try.sizeOf166
  v77 := Try.zeroValue166
theorem k_sortO (A : Option Addr) (c : Nat) (xs : List BidV) (w : World) (hl : xs.length < 4611686018427387904) (ho : (ow 93 3 encBi A c xs).P w) :
    Calls Try.prog 94 #[.slice A xs.length c, .func (.func 95) #[] #[]] w (fun en w' => en = .returned (.tuple #[]) ∧ Mut (ow 93 3 encBi A c xs) w w' ∧ (ow 93 3 encBi A c (srt xs)).P w') :=
  calls_sortK sortO_laid 3 (by omega) Try.isAgg93 Try.sizeOf93 encBi (fun _ => rfl) (fun x v hv => by simp at hv; rcases hv with rfl | rfl | rfl <;> rfl) cmpO swoO totO 95 (enters_of Try.func95 (by kernel_rfl) rfl) k_cmpO 93 c A xs w hl ho

theorem k_offers (st rv : Int) (lad : List RiseV) (Al : Option Addr) (cl : Nat) (bs : List BidV) (Ab : Option Addr) (cb : Nat) (w : World) (hlad : Rd w 2 encRi Al lad) (hbs : Rd w 3 encBi Ab bs) (hok : LotOk st rv lad) (hb32 : bs.length ≤ 32) : Calls Try.prog 54 #[.agg #[.int .i64 st, .int .i64 rv, .slice Al lad.length cl], .slice Ab bs.length cb] w (fun e w' => ∃ A c, e = .returned (.slice A (offL (rgL lad st) bs).length c) ∧ Grow w w' ∧ Res w w' 3 encBi A (offL (rgL lad st) bs)) := by
  have hlen := hbs.len
  have hol := offL_len (rgL lad st) bs
  refine enter_pure (args := [.agg #[.int .i64 st, .int .i64 rv, .slice Al lad.length cl], .slice Ab bs.length cb]) [sl (fun b => b < w.heap.size) 2 encRi Al lad, sl (fun b => b < w.heap.size) 3 encBi Ab bs] Try.func54 rfl (by rw [Try.ntmps54]; simp) (fun g hg => by simp at hg; rcases hg with rfl | rfl; exact ⟨hlad, fun _ h => h⟩; exact ⟨hbs, fun _ h => h⟩) ?_
  refine cj_seq (cj_region ?_)
  refine oj_box rfl rfl rfl (fun b2 => ?_)
  refine oj_step (y_assign rfl) rfl rfl rfl ?_
  refine oj_nil ?_
  refine ej_th (cj_seq (cj_region ?_))
  refine oj_makeMapZ ekI evB rfl (fun m15 => ?_)
  refine oj_step (y_assign rfl) rfl rfl rfl ?_
  refine oj_nil ?_
  refine ej_th (cj_seq (cj_seq ?_))
  refine cj_regionG (gj_step (y_move rfl) rfl rfl rfl (gj_step (y_lenA Try.underlying32 rfl) rfl rfl rfl (gj_step (y_move rfl) rfl rfl rfl (gj_nil ?_))))
  refine ej_th (cj_block ?_)
  refine cj_lpi (X := Nat × List (Int × BidV)) [(2, _), (4, _), (5, _), (16, _), (17, _)] (fun ⟨k, own⟩ => k ≤ bs.length ∧ ownF (rgL lad st) (bs.drop k) own = ownF (rgL lad st) bs []) (fun ⟨k, own⟩ => [(18, .int .i64 k)]) (fun ⟨k, own⟩ => [mz ekI evB m15 own, ownB b2 (cellsB 85 [.int .i64 st, .int .i64 rv, .slice Al lad.length cl])]) (fun ⟨k, own⟩ => [sl (fun b => b < w.heap.size) 2 encRi Al lad, sl (fun b => b < w.heap.size) 3 encBi Ab bs]) (fun ⟨k, own⟩ => bs.length - k) (0, []) (⟨Nat.zero_le _, rfl⟩) ⟨rfl, rfl, rfl, rfl, rfl, rfl, trivial⟩ ?_
  rintro ⟨k, own⟩ ⟨hk, hsk⟩
  dsimp only [List.cons_append, List.nil_append]
  refine cj_seq ?_
  refine cj_regionG (gj_step (y_lss rfl rfl) rfl rfl rfl (gj_nil ?_))
  refine ej_th (cj_seq ?_)
  refine cj_cond rfl (fun h19 => ?_) (fun h19 => ?_)
  · have h19b := h19
    try simp only [sxb] at h19
    obtain ⟨b, hx⟩ : ∃ b, bs[k]? = some b := ⟨_, List.getElem?_eq_getElem (by omega)⟩
    rw [ownF_drop (rgL lad st) bs k b own hx] at hsk
    refine cj_skip (ej_th (cj_seq (cj_block (cj_seq (cj_region ?_)))))
    refine oj_step (y_ixR (reads_sl) Try.underlying32 Try.sizeOf53 rfl rfl (⟨by omega, by omega⟩)) rfl rfl rfl ?_
    refine oj_step (y_ldW (reads_sl) Try.isAgg53 Try.sizeOf53 rfl (hx) (fun _ => rfl)) rfl rfl rfl ?_
    refine oj_alloc Try.zeroValue53 rfl rfl (fun b7 => ?_)
    refine oj_store rfl rfl rfl rfl Try.sizeOf53 rfl ?_
    refine oj_nil ?_
    refine ej_th (cj_seq (cj_region ?_))
    refine oj_step (y_loadN Try.isAgg85 Try.sizeOf85 rfl) rfl rfl rfl ?_
    refine oj_step (y_loadN Try.isAgg53 Try.sizeOf53 rfl) rfl rfl rfl ?_
    refine oj_step (y_call Try.call63 rfl (fun w hp => k_offer st rv lad Al cl b w hp.rd hok)) rfl rfl rfl ?_
    refine oj_step (y_move rfl) rfl rfl rfl ?_
    refine oj_step (y_extract rfl rfl) rfl rfl rfl ?_
    refine oj_step (y_extract rfl rfl) rfl rfl rfl ?_
    refine oj_alloc Try.zeroValue93 rfl rfl (fun b8 => ?_)
    refine oj_store rfl rfl rfl rfl Try.sizeOf93 rfl ?_
    refine oj_step (y_assign rfl) rfl rfl rfl ?_
    refine oj_nil ?_
    refine ej_th (cj_seq (cj_region ?_))
    refine oj_step (y_move rfl) rfl rfl rfl ?_
    refine oj_step (y_fa0 fa53_0 rfl) rfl rfl rfl ?_
    refine oj_step (y_load1 Try.isAgg3 rfl rfl) rfl rfl rfl ?_
    refine oj_step (y_lookupZ (ek := ekI) (ev := evB) (kk := b.who) default Try.underlying130 Try.underlying3 Try.zeroValue93 rfl rfl) rfl rfl rfl ?_
    refine oj_step (y_move rfl) rfl rfl rfl ?_
    refine oj_step (y_extract rfl rfl) rfl rfl rfl ?_
    refine oj_step (y_extract rfl rfl) rfl rfl rfl ?_
    refine oj_alloc Try.zeroValue93 rfl rfl (fun b10 => ?_)
    refine oj_store rfl rfl rfl rfl Try.sizeOf93 rfl ?_
    refine oj_step (y_assign rfl) rfl rfl rfl ?_
    refine oj_nil ?_
    refine ej_th (cj_seq ?_)
    refine cj_regionG ?_
    refine gj_step (y_move rfl) rfl rfl rfl (gj_step (y_move rfl) rfl rfl rfl (?_))
    refine gj_g 7 36 43 rfl rfl rfl rfl (fun hg36 => gj_yes rfl rfl rfl (y_move rfl) rfl rfl (gj_yes rfl rfl rfl (y_not rfl) rfl rfl (gj_yes rfl rfl rfl (y_move rfl) rfl rfl (gj_g 3 39 42 rfl rfl rfl rfl (fun hg39 => gj_yes rfl rfl rfl (y_loadN Try.isAgg93 Try.sizeOf93 rfl) rfl rfl (gj_yes rfl rfl rfl (y_loadN Try.isAgg93 Try.sizeOf93 rfl) rfl rfl (gj_yes rfl rfl rfl (y_call Try.call93 rfl (fun w hp => k_beats _ _ w)) rfl rfl (gj_nil rfl)))) (gj_yes rfl rfl rfl (y_or rfl rfl rfl) rfl rfl (gj_nil rfl)))))) ?_
    refine gj_step (y_and rfl rfl rfl) rfl rfl rfl (?_)
    refine gj_nil ?_
    refine ej_th ?_
    refine cj_cond rfl (fun h44 => ?_) (fun h44 => ?_)
    · have h44b := h44
      try simp only [sxb] at h44
      rw [own_yes h44b] at hsk
      refine cj_region ?_
      refine oj_step (y_move rfl) rfl rfl rfl ?_
      refine oj_step (y_fa0 fa53_0 rfl) rfl rfl rfl ?_
      refine oj_step (y_load1 Try.isAgg3 rfl rfl) rfl rfl rfl ?_
      refine oj_step (y_loadN Try.isAgg93 Try.sizeOf93 rfl) rfl rfl rfl ?_
      refine oj_mapUpdateZ (ek := ekI) (ev := evB) (kk := b.who) (v := offer1 (rgL lad st) b) Try.underlying130 Try.underlying3 rfl rfl rfl ?_
      refine oj_nil ?_
      refine ej_blk (ej_th ?_)
      refine cj_regionG (gj_step (y_add rfl rfl (by omega)) rfl rfl rfl (gj_step (y_move rfl) rfl rfl rfl (gj_nil ?_)))
      exact ej_nx (k + 1, putL own b.who (offer1 (rgL lad st) b)) (by simp only; omega) ⟨by first | omega | (simp only; omega), hsk⟩ ⟨rfl, rfl, rfl, rfl, rfl, rfl, trivial⟩
    · have h44b := h44
      try simp only [sxb] at h44
      rw [own_no h44b] at hsk
      refine cj_skip (ej_blk (ej_th ?_))
      refine cj_regionG (gj_step (y_add rfl rfl (by omega)) rfl rfl rfl (gj_step (y_move rfl) rfl rfl rfl (gj_nil ?_)))
      exact ej_nx (k + 1, own) (by simp only; omega) ⟨by first | omega | (simp only; omega), hsk⟩ ⟨rfl, rfl, rfl, rfl, rfl, rfl, trivial⟩
  · have h19b := h19
    try simp only [sxb] at h19
    rw [List.drop_of_length_le (by omega)] at hsk
    have hown : own = ownF (rgL lad st) bs [] := hsk
    subst hown
    refine cj_exit (ej_then_exit (ej_then_exit (ej_blk_hit (ej_th (cj_seq ?_)))))
    refine cj_regionG (gj_step (y_assign rfl) rfl rfl rfl (gj_nil ?_))
    refine ej_th (cj_seq (cj_seq ?_))
    refine cj_ownNil 93 3 encBi ?_
    refine cj_swapO ?_
    refine cj_region ?_
    refine oj_step (y_move rfl) rfl rfl rfl ?_
    refine oj_rangeZ (ek := ekI) (ev := evB) Try.underlying130 rfl rfl (fun r51 => ?_)
    refine oj_nil ?_
    refine ej_th (cj_block ?_)
    refine cj_lpi (X := List (Int × BidV) × Option (Int × BidV) × Option Addr × Nat × List BidV) [(4, _), (51, _)] (fun ⟨left, cur, A1, c1, outs⟩ => outs.length + left.length ≤ 32 ∧ (outs ++ left.map (·.2)).Perm ((ownF (rgL lad st) bs []).map (·.2))) (fun ⟨left, cur, A1, c1, outs⟩ => [(12, .slice A1 outs.length c1)]) (fun ⟨left, cur, A1, c1, outs⟩ => [mit ekI evB m15 r51 left cur, ow 93 3 encBi A1 c1 outs, ownB b2 (cellsB 85 [.int .i64 st, .int .i64 rv, .slice Al lad.length cl])]) (fun ⟨left, cur, A1, c1, outs⟩ => [sl (fun b => b < w.heap.size) 2 encRi Al lad, sl (fun b => b < w.heap.size) 3 encBi Ab bs]) (fun ⟨left, cur, A1, c1, outs⟩ => left.length) (ownF (rgL lad st) bs [], none, none, 0, []) (⟨by have := hol; unfold offL at this; rw [(srt_perm _).length_eq, List.length_map] at this; simp only [List.length_nil]; omega, by simp⟩) ⟨rfl, rfl, rfl, trivial⟩ ?_
    rintro ⟨left, cur, A1, c1, outs⟩ ⟨hll, hpm⟩
    dsimp only [List.cons_append, List.nil_append]
    refine cj_seq (cj_region ?_)
    refine oj_nextZ (ek := ekI) (ev := evB) rfl rfl (fun p hpn => ?_)
    refine oj_step (y_extractNx rfl) rfl rfl rfl ?_
    refine oj_nil ?_
    refine ej_th (cj_seq ?_)
    refine cj_cond rfl (fun h53 => ?_) (fun h53 => ?_)
    · have h53b := h53
      try simp only [sxb] at h53
      obtain ⟨⟨i, p⟩, rfl⟩ := nx_some h53b
      have hpi : left[i]? = some p := hpn
      dsimp only [nxL, nxC]
      refine cj_skip (ej_th (cj_block (cj_seq (cj_region ?_))))
      refine oj_step (y_entryZ (ek := ekI) (ev := evB) (p := p) rfl rfl) rfl rfl rfl ?_
      refine oj_step (y_extract rfl rfl) rfl rfl rfl ?_
      refine oj_alloc Try.zeroValue93 rfl rfl (fun b14 => ?_)
      refine oj_store rfl rfl rfl rfl Try.sizeOf93 rfl ?_
      refine oj_nil ?_
      refine ej_th (cj_region ?_)
      refine oj_step (y_move rfl) rfl rfl rfl ?_
      refine oj_step (y_loadN Try.isAgg93 Try.sizeOf93 rfl) rfl rfl rfl ?_
      refine oj_buildSlice (cs := [.int .i64 p.2.who, .int .i64 p.2.way, .int .i64 p.2.most]) [.int .i64 0, .int .i64 0, .int .i64 0] Try.underlying90 Try.sizeOf93 Try.zeroValue93 rfl rfl (by kernel_rfl) (by kernel_rfl) rfl (fun b58 => ?_)
      refine oj_append (ys := [p.2]) el90 (fun _ => rfl) encBi_one rfl rfl rfl (reads_lit [p.2] (fun _ => rfl) rfl) (by unfold maxLen; simp only [List.length_cons, List.length_nil]; omega) (by simp only [List.length_cons, List.length_nil]; omega) rfl (fun A59 c59 => ?_)
      refine oj_step (y_assign rfl) rfl rfl rfl ?_
      refine oj_nil ?_
      refine ej_blk ?_
      have hil := (List.getElem?_eq_some_iff.1 hpi).1
      have hel : (left.eraseIdx i).length = left.length - 1 := List.length_eraseIdx_of_lt hil
      exact ej_nx (left.eraseIdx i, some p, A59, c59, outs ++ [p.2]) (by simp only; omega) ⟨by simp only [List.length_append, List.length_cons, List.length_nil]; omega, (erase_perm left i p hpi outs).trans hpm⟩ ⟨rfl, rfl, rfl, trivial⟩
    · have h53b := h53
      try simp only [sxb] at h53
      have hpn2 := nx_none h53b
      subst hpn2
      have hle : left = [] := hpn
      subst hle
      have hperm : outs.Perm ((ownF (rgL lad st) bs []).map (·.2)) := by simpa using hpm
      have hse : srt outs = offL (rgL lad st) bs := srt_eq hperm
      refine cj_exit (ej_then_exit (ej_then_exit (ej_blk_hit (ej_th (cj_seq (cj_region ?_))))))
      refine oj_step (y_move rfl) rfl rfl rfl ?_
      refine oj_mutOw (us := outs) (srt outs) Try.call94 rfl (fun w hp ho => k_sortO _ _ _ w (by omega) ho) rfl ?_
      refine oj_nil ?_
      refine ej_th (cj_seq ?_)
      refine cj_regionG (gj_step (y_move rfl) rfl rfl rfl (gj_step (y_assign rfl) rfl rfl rfl (gj_nil ?_)))
      refine ej_th (cj_ret ?_)
      have hsl : (srt outs).length = outs.length := (srt_perm outs).length_eq
      exact ej_ret1 rfl Try.results54 rfl (fun w' hp => ⟨A1, c1, by rw [← hse, hsl], hp.below, by rw [← hse]; exact hp.res (fun _ => rfl) (by rw [hsl]; unfold maxLen; omega)⟩)

end Go.Proofs.Ytehmifpofpifkaa
namespace Go.Proofs.Ytehmifpofpifkaa
open Go.Sx Go.RowKit Am
set_option maxRecDepth 20000
theorem k_Sell (st rv : Int) (lad : List RiseV) (Al : Option Addr) (cl : Nat) (bs : List BidV) (Ab : Option Addr) (cb : Nat) (w : World) (hlad : Rd w 2 encRi Al lad) (hbs : Rd w 3 encBi Ab bs) : Calls Try.prog 22 #[.agg #[.int .i64 st, .int .i64 rv, .slice Al lad.length cl], .slice Ab bs.length cb] w (fun e w' => e = .returned (.tuple #[.agg #[.int .i64 ((SellV st rv lad bs)).winner, .int .i64 ((SellV st rv lad bs)).price], .int .i64 (SellE st rv lad bs)]) ∧ Grow w w') := by
  have hlen := hbs.len
  refine enter_pure (args := [.agg #[.int .i64 st, .int .i64 rv, .slice Al lad.length cl], .slice Ab bs.length cb]) [sl (fun b => b < w.heap.size) 2 encRi Al lad, sl (fun b => b < w.heap.size) 3 encBi Ab bs] Try.func22 rfl (by rw [Try.ntmps22]; simp) (fun g hg => by simp at hg; rcases hg with rfl | rfl; exact ⟨hlad, fun _ h => h⟩; exact ⟨hbs, fun _ h => h⟩) ?_
  refine cj_seq (cj_region ?_)
  refine oj_box rfl rfl rfl (fun b2 => ?_)
  refine oj_alloc Try.zeroValue34 rfl rfl (fun b4 => ?_)
  refine oj_step (y_assign rfl) rfl rfl rfl ?_
  refine oj_nil ?_
  refine ej_th (cj_seq (cj_seq ?_))
  refine cj_regionG ?_
  refine gj_step (y_loadN Try.isAgg24 Try.sizeOf24 rfl) rfl rfl rfl (?_)
  refine gj_step (y_call Try.call17 rfl (fun w hp => k_Check st rv lad Al cl w hp.rd)) rfl rfl rfl ?_
  refine gj_step (y_assign rfl) rfl rfl rfl (?_)
  refine gj_nil ?_
  refine ej_th (cj_seq ?_)
  refine cj_regionG (gj_step (y_move rfl) rfl rfl rfl (gj_step (y_neq rfl rfl) rfl rfl rfl (gj_nil ?_)))
  refine ej_th ?_
  refine cj_cond rfl (fun h14 => ?_) (fun h14 => ?_)
  · have h14b := h14
    try simp only [sxb] at h14
    obtain ⟨e1, e2⟩ := sell_no (bs := bs) (lotE_no h14b)
    have hno := lotE_no h14b
    refine cj_seq (cj_region ?_)
    refine oj_step (y_build st34 rfl rfl) rfl rfl rfl ?_
    refine oj_step (y_move rfl) rfl rfl rfl ?_
    refine oj_store rfl rfl rfl rfl Try.sizeOf34 rfl ?_
    refine oj_step (y_assign rfl) rfl rfl rfl ?_
    refine oj_nil ?_
    refine ej_th (cj_ret (ej_then_ret ?_))
    refine ej_retC2 rfl Try.results22 rfl (y_loadN Try.isAgg34 Try.sizeOf34 rfl) rfl (fun w' hp => ⟨?_, hp.below⟩)
    rw [e1, e2, lotE, hno]; rfl
  · have h14b := h14
    try simp only [sxb] at h14
    have hyes := lotE_0 h14b
    have hok := lot_ok hyes
    refine cj_skip (ej_th (cj_seq (cj_seq ?_)))
    refine cj_regionG ?_
    refine gj_step (y_move rfl) rfl rfl rfl (?_)
    refine gj_step (y_call Try.call53 rfl (fun w hp => k_bids bs Ab cb w hp.rd)) rfl rfl rfl ?_
    refine gj_step (y_not rfl) rfl rfl rfl (?_)
    refine gj_nil ?_
    refine ej_th ?_
    refine cj_cond rfl (fun h19 => ?_) (fun h19 => ?_)
    · have h19b := h19
      try simp only [sxb] at h19
      obtain ⟨e1, e2⟩ := sell_no2 hyes (not_t h19b)
      refine cj_seq (cj_region ?_)
      refine oj_step (y_build st34 rfl rfl) rfl rfl rfl ?_
      refine oj_store rfl rfl rfl rfl Try.sizeOf34 rfl ?_
      refine oj_step (y_assign rfl) rfl rfl rfl ?_
      refine oj_nil ?_
      refine ej_th (cj_ret (ej_then_ret ?_))
      refine ej_retC2 rfl Try.results22 rfl (y_loadN Try.isAgg34 Try.sizeOf34 rfl) rfl (fun w' hp => ⟨?_, hp.below⟩)
      rw [e1, e2]
    · have h19b := h19
      try simp only [sxb] at h19
      have hby := not_f h19b
      have hbo := bids_ok hby
      obtain ⟨e1, e2⟩ := sell_yes hyes hby
      have hol := offL_len (rgL lad st) bs
      refine cj_skip (ej_th (cj_seq (cj_region ?_)))
      refine oj_step (y_build (cs := [.int .i64 (-1), .int .i64 0]) st34 rfl (by kernel_rfl)) rfl rfl rfl ?_
      refine oj_alloc Try.zeroValue34 rfl rfl (fun b7 => ?_)
      refine oj_store rfl rfl rfl rfl Try.sizeOf34 rfl ?_
      refine oj_nil ?_
      refine ej_th (cj_seq (cj_region ?_))
      refine oj_step (y_loadN Try.isAgg24 Try.sizeOf24 rfl) rfl rfl rfl ?_
      refine oj_step (y_build (cs := [.int .i64 st, .int .i64 rv, .slice Al lad.length cl]) st85 rfl (by kernel_rfl)) rfl rfl rfl ?_
      refine oj_step (y_move rfl) rfl rfl rfl ?_
      refine oj_callS (fun A c => .slice A (offL (rgL lad st) bs).length c) 3 encBi (offL (rgL lad st) bs) Try.call54 rfl (fun w hp => k_offers st rv lad Al cl bs Ab cb w hp.rd hp.rd hok hbo.1) rfl (fun A25 c25 fp25 hfp25 => ?_)
      refine oj_step (y_assign rfl) rfl rfl rfl ?_
      refine oj_nil ?_
      refine ej_th (cj_seq ?_)
      have hl0 : behF (rv - 1) (rgL lad st) = leastR st rv lad := rfl
      generalize hSS : offL (rgL lad st) bs = SS at *
      refine cj_regionG ?_
      refine gj_step (y_loadN Try.isAgg24 Try.sizeOf24 rfl) rfl rfl rfl (gj_step (y_build (cs := [.int .i64 st, .int .i64 rv, .slice Al lad.length cl]) st85 rfl (by kernel_rfl)) rfl rfl rfl (gj_step (y_fa fa24_1 rfl) rfl rfl rfl (gj_step (y_load1 Try.isAgg3 rfl rfl) rfl rfl rfl (gj_step (y_sub rfl rfl (by have := hok.rv; omega)) rfl rfl rfl (?_)))))
      refine gj_step (y_call Try.call50 rfl (fun w hp => k_behind st rv lad Al cl (rv - 1) w hp.rd hok)) rfl rfl rfl ?_
      refine gj_step (y_assign rfl) rfl rfl rfl (?_)
      refine gj_nil ?_
      refine ej_th (cj_seq (cj_seq ?_))
      refine cj_regionG (gj_step (y_move rfl) rfl rfl rfl (gj_step (y_lenA Try.underlying90 rfl) rfl rfl rfl (gj_step (y_eql rfl rfl) rfl rfl rfl (gj_step (y_move rfl) rfl rfl rfl (gj_g 2 35 37 rfl rfl rfl rfl (fun hg35 => gj_yes rfl rfl rfl (y_move rfl) rfl rfl (gj_yes rfl rfl rfl (y_eql rfl rfl) rfl rfl (gj_nil rfl))) (gj_step (y_or rfl rfl rfl) rfl rfl rfl (gj_step (y_move rfl) rfl rfl rfl (gj_g 7 39 46 rfl rfl rfl rfl (fun hg39 => gj_yes rfl rfl rfl (y_move rfl) rfl rfl (gj_yes rfl rfl rfl (y_ixR (reads_sl) Try.underlying90 Try.sizeOf93 rfl rfl (⟨by omega, by have := hg39; simp only [sxb] at this; omega⟩)) rfl rfl (gj_yes rfl rfl rfl (y_faE fa93_0 rfl) rfl rfl (gj_yes rfl rfl rfl (y_faE fa53_2 rfl) rfl rfl (gj_yes rfl rfl rfl (y_ld1 (reads_sl) Try.isAgg3 rfl (geq default (by have := hg39; simp only [sxb] at this; omega)) rfl) rfl rfl (gj_yes rfl rfl rfl (y_move rfl) rfl rfl (gj_yes rfl rfl rfl (y_lss rfl rfl) rfl rfl (gj_nil rfl)))))))) (gj_step (y_or rfl rfl rfl) rfl rfl rfl (gj_nil ?_))))))))))
      refine ej_th ?_
      refine cj_cond rfl (fun h47 => ?_) (fun h47 => ?_)
      · have h47b := h47
        try simp only [sxb] at h47
        rw [hl0] at h47b
        have hs := sellP_no (rs := rgL lad st) (st := st) h47b
        rw [hs] at e1
        refine cj_seq (cj_region ?_)
        refine oj_step (y_loadN Try.isAgg34 Try.sizeOf34 rfl) rfl rfl rfl ?_
        refine oj_store rfl rfl rfl rfl Try.sizeOf34 rfl ?_
        refine oj_step (y_assign rfl) rfl rfl rfl ?_
        refine oj_nil ?_
        refine ej_th (cj_ret (ej_then_ret ?_))
        refine ej_retC2 rfl Try.results22 rfl (y_loadN Try.isAgg34 Try.sizeOf34 rfl) rfl (fun w' hp => ⟨?_, hp.below⟩)
        rw [e1, e2]
      · have h47b := h47
        try simp only [sxb] at h47
        rw [hl0] at h47b
        obtain ⟨o, t, hSo, hs⟩ := sellP_yes (rs := rgL lad st) (st := st) h47b
        rw [hs] at e1
        subst hSo
        have ho : (o :: t)[(0 : Int).toNat]? = some o := rfl
        refine cj_skip (ej_th (cj_seq ?_))
        refine cj_regionG (gj_step (y_assign rfl) rfl rfl rfl (gj_nil ?_))
        refine ej_th ?_
        refine cj_cutic (X := Int) [(2, _), (4, _), (5, _), (8, _), (9, _)] ⟨rfl, rfl, rfl, rfl, rfl, trivial⟩ (fun s => s = secT t) (fun s => [(10, .int .i64 s)]) ?_ ?_
        · refine cj_seq ?_
          refine cj_regionG (gj_step (y_move rfl) rfl rfl rfl (gj_step (y_lenA Try.underlying90 rfl) rfl rfl rfl (gj_step (y_gtr rfl rfl) rfl rfl rfl (gj_nil ?_))))
          refine ej_th ?_
          refine cj_cond rfl (fun h51 => ?_) (fun h51 => ?_)
          · have h51b := h51
            try simp only [sxb] at h51
            have hs1 : ((o :: t).getD (1 : Int).toNat default).most = secT t := by
              cases t with
              | nil => simp only [List.length_cons, List.length_nil] at h51; omega
              | cons q t2 => rfl
            refine cj_regionG (gj_step (y_move rfl) rfl rfl rfl (gj_step (y_ixR (reads_sl) Try.underlying90 Try.sizeOf93 rfl rfl (⟨by omega, by omega⟩)) rfl rfl rfl (gj_step (y_faE fa93_0 rfl) rfl rfl rfl (gj_step (y_faE fa53_2 rfl) rfl rfl rfl (gj_step (y_ld1 (reads_sl) Try.isAgg3 rfl (geq default (by omega)) rfl) rfl rfl rfl (gj_step (y_assign rfl) rfl rfl rfl (gj_nil ?_)))))))
            exact ej_ct _ hs1 ⟨rfl, rfl, rfl, rfl, rfl, rfl, trivial⟩
          · have h51b := h51
            try simp only [sxb] at h51
            have hs0 : (0 : Int) = secT t := by
              cases t with
              | nil => rfl
              | cons q t2 => simp only [List.length_cons] at h51; omega
            refine cj_skip ?_
            exact ej_ct 0 hs0 ⟨rfl, rfl, rfl, rfl, rfl, rfl, trivial⟩
        · rintro _ rfl
          dsimp only [List.cons_append, List.nil_append]
          refine cj_seq ?_
          refine cj_plan 19 (by kernel_rfl) (by kernel_rfl) ?_
          refine pl_y 0 rfl (y_move rfl) rfl rfl rfl rfl (by kernel_rfl) ?_
          refine pl_y 1 rfl (y_ixR (reads_sl) Try.underlying90 Try.sizeOf93 rfl rfl (⟨by omega, by simp only [List.length_cons]; omega⟩)) rfl rfl rfl rfl (by kernel_rfl) ?_
          refine pl_y 2 rfl (y_faE fa93_0 rfl) rfl rfl rfl rfl (by kernel_rfl) ?_
          refine pl_y 3 rfl (y_faE fa53_0 rfl) rfl rfl rfl rfl (by kernel_rfl) ?_
          refine pl_y 4 rfl (y_ld1 (reads_sl) Try.isAgg3 rfl (ho) rfl) rfl rfl rfl rfl (by kernel_rfl) ?_
          refine pl_y 5 rfl (y_move rfl) rfl rfl rfl rfl (by kernel_rfl) ?_
          refine pl_y 6 rfl (y_loadN Try.isAgg24 Try.sizeOf24 rfl) rfl rfl rfl rfl (by kernel_rfl) ?_
          refine pl_y 7 rfl (y_build (cs := [.int .i64 st, .int .i64 rv, .slice Al lad.length cl]) st85 rfl (by kernel_rfl)) rfl rfl rfl rfl (by kernel_rfl) ?_
          refine pl_y 8 rfl (y_move rfl) rfl rfl rfl rfl (by kernel_rfl) ?_
          refine pl_y 9 rfl (y_ixR (reads_sl) Try.underlying90 Try.sizeOf93 rfl rfl (⟨by omega, by simp only [List.length_cons]; omega⟩)) rfl rfl rfl rfl (by kernel_rfl) ?_
          refine pl_y 10 rfl (y_faE fa93_0 rfl) rfl rfl rfl rfl (by kernel_rfl) ?_
          refine pl_y 11 rfl (y_faE fa53_2 rfl) rfl rfl rfl rfl (by kernel_rfl) ?_
          refine pl_y 12 rfl (y_ld1 (reads_sl) Try.isAgg3 rfl (ho) rfl) rfl rfl rfl rfl (by kernel_rfl) ?_
          refine pl_y 13 rfl (y_move rfl) rfl rfl rfl rfl (by kernel_rfl) ?_
          refine pl_y 14 rfl (y_call Try.call56 rfl (fun w hp => k_price st rv lad Al cl _ _ w hp.rd hok)) rfl rfl rfl rfl (by kernel_rfl) ?_
          refine pl_y 15 rfl (y_call Try.call55 rfl (fun w hp => k_largest _ _ w)) rfl rfl rfl rfl (by kernel_rfl) ?_
          refine pl_y 16 rfl (y_build (cs := [.int .i64 o.who, .int .i64 (max (leastR st rv lad) (priceF (rgL lad st) st o.most (secT t)))]) st34 rfl (by kernel_rfl)) rfl rfl rfl rfl (by kernel_rfl) ?_
          refine pl_w1 17 (by kernel_rfl) rfl rfl (pl_fire rfl rfl rfl (by kernel_rfl) ?_)
          refine oj_store rfl rfl rfl rfl Try.sizeOf34 rfl ?_
          refine oj_nil ?_
          refine ej_pl (lt_w (by kernel_rfl) (lt_w (by kernel_rfl) (lt_w (by kernel_rfl) (lt_w (by kernel_rfl) (lt_w (by kernel_rfl) (lt_w (by kernel_rfl) (lt_w (by kernel_rfl) (lt_w (by kernel_rfl) (lt_w (by kernel_rfl) (lt_w (by kernel_rfl) (lt_w (by kernel_rfl) (lt_w (by kernel_rfl) (lt_w (by kernel_rfl) (lt_w (by kernel_rfl) (lt_w (by kernel_rfl) (lt_w (by kernel_rfl) (lt_w (by kernel_rfl) (lt_nil)))))))))))))))))) ?_
          refine pl_y 18 rfl (y_assign rfl) rfl rfl rfl rfl (by kernel_rfl) ?_
          refine pl_end (by kernel_rfl) ?_
          refine ej_th (cj_ret ?_)
          refine ej_retC2 rfl Try.results22 rfl (y_loadN Try.isAgg34 Try.sizeOf34 rfl) rfl (fun w' hp => ⟨?_, hp.below⟩)
          rw [e1, e2]

end Go.Proofs.Ytehmifpofpifkaa
namespace Go.Proofs.Ytehmifpofpifkaa
open Go.Sx Go.RowKit Am
set_option maxRecDepth 20000
theorem k_bidding (bs : List BidV) (Ab : Option Addr) (cb : Nat) (w : World) (hbs : Rd w 3 encBi Ab bs) : Calls Try.prog 57 #[.slice Ab bs.length cb] w (fun e w' => e = .returned (.bool (bidsB bs)) ∧ Grow w w') := by
  have hlen := hbs.len
  refine enter_pure (args := [.slice Ab bs.length cb]) [sl (fun b => b < w.heap.size) 3 encBi Ab bs] Try.func57 rfl (by rw [Try.ntmps57]; simp) (fun g hg => by simp at hg; subst hg; exact ⟨hbs, fun _ h => h⟩) ?_
  refine cj_seq ?_
  refine cj_regionG (gj_step (y_assign rfl) rfl rfl rfl (gj_nil ?_))
  refine ej_th (cj_seq (cj_seq ?_))
  refine cj_regionG (gj_step (y_assign rfl) rfl rfl rfl (gj_nil ?_))
  refine ej_th (cj_block ?_)
  refine cj_lpic (X := Nat) [(0, _)] (fun k => k ≤ bs.length ∧ (bs.drop k).all bid1 = bs.all bid1) (fun k => [(3, .int .i64 k)]) (fun k => bs.length - k) 0 (⟨Nat.zero_le _, rfl⟩) ⟨rfl, rfl, trivial⟩ ?_
  rintro k ⟨hk, hsk⟩
  dsimp only [List.cons_append, List.nil_append]
  refine cj_seq (cj_seq ?_)
  refine cj_regionG (gj_step (y_move rfl) rfl rfl rfl (gj_step (y_move rfl) rfl rfl rfl (gj_step (y_lenA Try.underlying32 rfl) rfl rfl rfl (gj_step (y_lss rfl rfl) rfl rfl rfl (gj_nil ?_)))))
  refine ej_th ?_
  refine cj_cond rfl (fun h8 => ?_) (fun h8 => ?_)
  · have h8b := h8
    try simp only [sxb] at h8
    obtain ⟨b, hx⟩ : ∃ b, bs[k]? = some b := ⟨_, List.getElem?_eq_getElem (by omega)⟩
    rw [all_drop bid1 bs k b hx] at hsk
    have hi : (0 : Int) ≤ k ∧ (k : Int) < bs.length := by omega
    refine cj_skip (ej_th (cj_seq (cj_block (cj_seq (cj_region ?_)))))
    refine oj_step (y_move rfl) rfl rfl rfl ?_
    refine oj_step (y_move rfl) rfl rfl rfl ?_
    refine oj_step (y_ixR (reads_sl) Try.underlying32 Try.sizeOf53 rfl rfl (hi)) rfl rfl rfl ?_
    refine oj_step (y_ldW (reads_sl) Try.isAgg53 Try.sizeOf53 rfl (hx) (fun _ => rfl)) rfl rfl rfl ?_
    refine oj_alloc Try.zeroValue53 rfl rfl (fun b4 => ?_)
    refine oj_store rfl rfl rfl rfl Try.sizeOf53 rfl ?_
    refine oj_nil ?_
    refine ej_th (cj_seq ?_)
    refine cj_regionG ?_
    refine gj_step (y_fa0 fa53_0 rfl) rfl rfl rfl (gj_step (y_load1 Try.isAgg3 rfl rfl) rfl rfl rfl (?_))
    refine gj_step (y_call Try.call35 rfl (fun w hp => k_From _ _ _ w)) rfl rfl rfl ?_
    refine gj_step (y_not rfl) rfl rfl rfl (gj_step (y_move rfl) rfl rfl rfl (?_))
    refine gj_g 4 19 23 rfl rfl rfl rfl (fun hg19 => gj_yes rfl rfl rfl (y_fa fa53_1 rfl) rfl rfl (gj_yes rfl rfl rfl (y_load1 Try.isAgg3 rfl rfl) rfl rfl (gj_yes rfl rfl rfl (y_call Try.call35 rfl (fun w hp => k_From _ _ _ w)) rfl rfl (gj_yes rfl rfl rfl (y_not rfl) rfl rfl (gj_nil rfl))))) ?_
    refine gj_step (y_or rfl rfl rfl) rfl rfl rfl (gj_step (y_move rfl) rfl rfl rfl (?_))
    refine gj_g 4 25 29 rfl rfl rfl rfl (fun hg25 => gj_yes rfl rfl rfl (y_fa fa53_2 rfl) rfl rfl (gj_yes rfl rfl rfl (y_load1 Try.isAgg3 rfl rfl) rfl rfl (gj_yes rfl rfl rfl (y_call Try.call35 rfl (fun w hp => k_From _ _ _ w)) rfl rfl (gj_yes rfl rfl rfl (y_not rfl) rfl rfl (gj_nil rfl))))) ?_
    refine gj_step (y_or rfl rfl rfl) rfl rfl rfl (?_)
    refine gj_nil ?_
    refine ej_th ?_
    refine cj_cond rfl (fun h30 => ?_) (fun h30 => ?_)
    · have h30b := h30
      try simp only [sxb] at h30
      rw [bid1_V b] at h30b
      refine cj_seq ?_
      refine cj_regionG (gj_step (y_assign rfl) rfl rfl rfl (gj_nil ?_))
      refine ej_th (cj_ret (ej_blk_ret (ej_then_ret (ej_then_ret (ej_blk_ret (ej_then_ret ?_))))))
      refine ej_ret1 rfl Try.results57 rfl (fun w' hp => ⟨?_, hp.below⟩)
      rw [← bids_comm, ← hsk, not_t h30b]; rfl
    · have h30b := h30
      try simp only [sxb] at h30
      rw [bid1_V b] at h30b
      refine cj_skip (ej_blk (ej_th ?_))
      refine cj_regionG (gj_step (y_move rfl) rfl rfl rfl (gj_step (y_add rfl rfl (by omega)) rfl rfl rfl (gj_step (y_assign rfl) rfl rfl rfl (gj_nil ?_))))
      exact ej_nx (k + 1) (by omega) ⟨by omega, by rw [← hsk, not_f h30b, Bool.true_and]⟩ ⟨rfl, rfl, trivial⟩
  · have h8b := h8
    try simp only [sxb] at h8
    refine cj_exit (ej_then_exit (ej_then_exit (ej_blk_hit (ej_th (cj_seq ?_)))))
    refine cj_regionG (gj_step (y_move rfl) rfl rfl rfl (gj_step (y_lenA Try.underlying32 rfl) rfl rfl rfl (gj_step (y_leq rfl rfl) rfl rfl rfl (gj_step (y_assign rfl) rfl rfl rfl (gj_nil ?_)))))
    refine ej_th (cj_ret ?_)
    refine ej_ret1 rfl Try.results57 rfl (fun w' hp => ⟨?_, hp.below⟩)
    rw [← bids_comm, ← hsk, List.drop_of_length_le (by omega)]; rfl

theorem k_rbeats (a b : BidV) (w : World)  : Calls Try.prog 59 #[.agg #[.int .i64 a.most, .int .i64 a.way, .int .i64 a.who], .agg #[.int .i64 b.most, .int .i64 b.way, .int .i64 b.who]] w (fun e w' => e = .returned (.bool (beats a b)) ∧ Grow w w') := by
  refine enter_pure (args := [.agg #[.int .i64 a.most, .int .i64 a.way, .int .i64 a.who], .agg #[.int .i64 b.most, .int .i64 b.way, .int .i64 b.who]]) [] Try.func59 rfl (by rw [Try.ntmps59]; simp) (by simp) ?_
  refine cj_seq (cj_region ?_)
  refine oj_box rfl rfl rfl (fun b2 => ?_)
  refine oj_box rfl rfl rfl (fun b3 => ?_)
  refine oj_step (y_assign rfl) rfl rfl rfl ?_
  refine oj_nil ?_
  refine ej_th (cj_seq (cj_seq ?_))
  refine cj_regionG (gj_step (y_fa0 fa95_0 rfl) rfl rfl rfl (gj_step (y_load1 Try.isAgg3 rfl rfl) rfl rfl rfl (gj_step (y_fa0 fa95_0 rfl) rfl rfl rfl (gj_step (y_load1 Try.isAgg3 rfl rfl) rfl rfl rfl (gj_step (y_neq rfl rfl) rfl rfl rfl (gj_nil ?_))))))
  refine ej_th ?_
  refine cj_cond rfl (fun h9 => ?_) (fun h9 => ?_)
  · have h9b := h9
    try simp only [sxb] at h9
    refine cj_seq ?_
    refine cj_regionG (gj_step (y_fa0 fa95_0 rfl) rfl rfl rfl (gj_step (y_load1 Try.isAgg3 rfl rfl) rfl rfl rfl (gj_step (y_fa0 fa95_0 rfl) rfl rfl rfl (gj_step (y_load1 Try.isAgg3 rfl rfl) rfl rfl rfl (gj_step (y_gtr rfl rfl) rfl rfl rfl (gj_step (y_assign rfl) rfl rfl rfl (gj_nil ?_)))))))
    refine ej_th (cj_ret (ej_then_ret ?_))
    refine ej_ret1 rfl Try.results59 rfl (fun w' hp => ⟨?_, hp.below⟩)
    unfold beats; rw [if_neg (by simpa using h9b)]
  · have h9b := h9
    try simp only [sxb] at h9
    refine cj_skip (ej_th (cj_seq (cj_seq ?_)))
    refine cj_regionG (gj_step (y_fa fa95_1 rfl) rfl rfl rfl (gj_step (y_load1 Try.isAgg3 rfl rfl) rfl rfl rfl (gj_step (y_fa fa95_1 rfl) rfl rfl rfl (gj_step (y_load1 Try.isAgg3 rfl rfl) rfl rfl rfl (gj_step (y_neq rfl rfl) rfl rfl rfl (gj_nil ?_))))))
    refine ej_th ?_
    refine cj_cond rfl (fun h19 => ?_) (fun h19 => ?_)
    · have h19b := h19
      try simp only [sxb] at h19
      refine cj_seq ?_
      refine cj_regionG (gj_step (y_fa fa95_1 rfl) rfl rfl rfl (gj_step (y_load1 Try.isAgg3 rfl rfl) rfl rfl rfl (gj_step (y_fa fa95_1 rfl) rfl rfl rfl (gj_step (y_load1 Try.isAgg3 rfl rfl) rfl rfl rfl (gj_step (y_lss rfl rfl) rfl rfl rfl (gj_step (y_assign rfl) rfl rfl rfl (gj_nil ?_)))))))
      refine ej_th (cj_ret (ej_then_ret ?_))
      refine ej_ret1 rfl Try.results59 rfl (fun w' hp => ⟨?_, hp.below⟩)
      unfold beats; rw [if_pos (by simpa using h9b), if_neg (by simpa using h19b)]
    · have h19b := h19
      try simp only [sxb] at h19
      refine cj_skip (ej_th (cj_seq ?_))
      refine cj_regionG (gj_step (y_fa fa95_2 rfl) rfl rfl rfl (gj_step (y_load1 Try.isAgg3 rfl rfl) rfl rfl rfl (gj_step (y_fa fa95_2 rfl) rfl rfl rfl (gj_step (y_load1 Try.isAgg3 rfl rfl) rfl rfl rfl (gj_step (y_lss rfl rfl) rfl rfl rfl (gj_step (y_assign rfl) rfl rfl rfl (gj_nil ?_)))))))
      refine ej_th (cj_ret ?_)
      refine ej_ret1 rfl Try.results59 rfl (fun w' hp => ⟨?_, hp.below⟩)
      unfold beats; rw [if_pos (by simpa using h9b), if_pos (by simpa using h19b)]

theorem k_roffer (st rv : Int) (lad : List RiseV) (Al : Option Addr) (cl : Nat) (bs : List BidV) (Ab : Option Addr) (cb : Nat) (i : Int) (w : World) (hlad : Rd w 2 encRi Al lad) (hbs : Rd w 3 encBi Ab bs) (hok : LotOk st rv lad) : Calls Try.prog 58 #[.agg #[.int .i64 st, .int .i64 rv, .slice Al lad.length cl], .slice Ab bs.length cb, .int .i64 i] w (fun e w' => e = .returned (.agg #[.int .i64 (refOff (rgL lad st) bs i).most, .int .i64 (refOff (rgL lad st) bs i).way, .int .i64 (refOff (rgL lad st) bs i).who]) ∧ Grow w w') := by
  have hlen := hbs.len
  refine enter_pure (args := [.agg #[.int .i64 st, .int .i64 rv, .slice Al lad.length cl], .slice Ab bs.length cb, .int .i64 i]) [sl (fun b => b < w.heap.size) 2 encRi Al lad, sl (fun b => b < w.heap.size) 3 encBi Ab bs] Try.func58 rfl (by rw [Try.ntmps58]; simp) (fun g hg => by simp at hg; rcases hg with rfl | rfl; exact ⟨hlad, fun _ h => h⟩; exact ⟨hbs, fun _ h => h⟩) ?_
  refine cj_seq (cj_region ?_)
  refine oj_box rfl rfl rfl (fun b3 => ?_)
  refine oj_alloc Try.zeroValue95 rfl rfl (fun b6 => ?_)
  refine oj_nil ?_
  refine ej_th (cj_seq (cj_region ?_))
  refine oj_step (y_move rfl) rfl rfl rfl ?_
  refine oj_step (y_build (cs := [.int .i64 0, .int .i64 0, .int .i64 i]) st95 rfl (by kernel_rfl)) rfl rfl rfl ?_
  refine oj_alloc Try.zeroValue95 rfl rfl (fun b7 => ?_)
  refine oj_store rfl rfl rfl rfl Try.sizeOf95 rfl ?_
  refine oj_nil ?_
  refine ej_th (cj_seq (cj_seq ?_))
  refine cj_regionG (gj_step (y_assign rfl) rfl rfl rfl (gj_nil ?_))
  refine ej_th (cj_block ?_)
  refine cj_lpi (X := Nat × Int) [(1, _), (2, _), (3, _), (6, _), (7, _)] (fun ⟨k, r⟩ => k ≤ bs.length ∧ rngO i (rgL lad st) (bs.drop k) r = rngO i (rgL lad st) bs 0) (fun ⟨k, r⟩ => [(8, .int .i64 k)]) (fun ⟨k, r⟩ => [ownB b7 (cellsB 95 [.int .i64 r, .int .i64 0, .int .i64 i]), ownB b6 (cellsB 95 [.int .i64 0, .int .i64 0, .int .i64 0]), ownB b3 (cellsB 24 [.int .i64 st, .int .i64 rv, .slice Al lad.length cl])]) (fun ⟨k, r⟩ => [sl (fun b => b < w.heap.size) 2 encRi Al lad, sl (fun b => b < w.heap.size) 3 encBi Ab bs]) (fun ⟨k, r⟩ => bs.length - k) (0, 0) (⟨Nat.zero_le _, rfl⟩) ⟨rfl, rfl, rfl, rfl, rfl, rfl, trivial⟩ ?_
  rintro ⟨k, r⟩ ⟨hk, hsk⟩
  dsimp only [List.cons_append, List.nil_append]
  refine cj_seq (cj_seq ?_)
  refine cj_regionG (gj_step (y_move rfl) rfl rfl rfl (gj_step (y_move rfl) rfl rfl rfl (gj_step (y_lenA Try.underlying32 rfl) rfl rfl rfl (gj_step (y_lss rfl rfl) rfl rfl rfl (gj_nil ?_)))))
  refine ej_th ?_
  refine cj_cond rfl (fun h15 => ?_) (fun h15 => ?_)
  · have h15b := h15
    try simp only [sxb] at h15
    obtain ⟨b, hx⟩ : ∃ b, bs[k]? = some b := ⟨_, List.getElem?_eq_getElem (by omega)⟩
    rw [rngO_drop i (rgL lad st) bs k b r hx] at hsk
    have hi : (0 : Int) ≤ k ∧ (k : Int) < bs.length := by omega
    refine cj_skip (ej_th (cj_seq (cj_block (cj_seq ?_))))
    refine cj_regionG (gj_step (y_move rfl) rfl rfl rfl (gj_step (y_move rfl) rfl rfl rfl (gj_step (y_ixR (reads_sl) Try.underlying32 Try.sizeOf53 rfl rfl (hi)) rfl rfl rfl (gj_step (y_faE fa53_0 rfl) rfl rfl rfl (gj_step (y_ld1 (reads_sl) Try.isAgg3 rfl (hx) rfl) rfl rfl rfl (gj_step (y_move rfl) rfl rfl rfl (gj_step (y_eql rfl rfl) rfl rfl rfl (gj_nil ?_))))))))
    refine ej_th ?_
    refine cj_cond rfl (fun h24 => ?_) (fun h24 => ?_)
    · have h24b := h24
      try simp only [sxb] at h24
      rw [if_pos (by simpa using h24b)] at hsk
      refine cj_plan 12 (by kernel_rfl) (by kernel_rfl) ?_
      refine pl_y 0 rfl (y_fa0 fa95_0 rfl) rfl rfl rfl rfl (by kernel_rfl) ?_
      refine pl_y 1 rfl (y_load1 Try.isAgg3 rfl rfl) rfl rfl rfl rfl (by kernel_rfl) ?_
      refine pl_y 2 rfl (y_loadN Try.isAgg24 Try.sizeOf24 rfl) rfl rfl rfl rfl (by kernel_rfl) ?_
      refine pl_y 3 rfl (y_move rfl) rfl rfl rfl rfl (by kernel_rfl) ?_
      refine pl_y 4 rfl (y_move rfl) rfl rfl rfl rfl (by kernel_rfl) ?_
      refine pl_y 5 rfl (y_ixR (reads_sl) Try.underlying32 Try.sizeOf53 rfl rfl (hi)) rfl rfl rfl rfl (by kernel_rfl) ?_
      refine pl_y 6 rfl (y_faE fa53_2 rfl) rfl rfl rfl rfl (by kernel_rfl) ?_
      refine pl_y 7 rfl (y_ld1 (reads_sl) Try.isAgg3 rfl (hx) rfl) rfl rfl rfl rfl (by kernel_rfl) ?_
      refine pl_y 8 rfl (y_call Try.call48 rfl (fun w hp => k_rrung st rv lad Al cl b.most w hp.rd hok)) rfl rfl rfl rfl (by kernel_rfl) ?_
      refine pl_y 9 rfl (y_max rfl rfl) rfl rfl rfl rfl (by kernel_rfl) ?_
      refine pl_y 10 rfl (y_fa0 fa95_0 rfl) rfl rfl rfl rfl (by kernel_rfl) ?_
      refine pl_w1 11 (by kernel_rfl) rfl rfl (pl_fire rfl rfl rfl (by kernel_rfl) ?_)
      refine oj_store rfl rfl rfl rfl Try.sizeOf3 rfl ?_
      refine oj_nil ?_
      refine ej_pl (lt_w (by kernel_rfl) (lt_w (by kernel_rfl) (lt_w (by kernel_rfl) (lt_w (by kernel_rfl) (lt_w (by kernel_rfl) (lt_w (by kernel_rfl) (lt_w (by kernel_rfl) (lt_w (by kernel_rfl) (lt_w (by kernel_rfl) (lt_w (by kernel_rfl) (lt_w (by kernel_rfl) (lt_nil)))))))))))) ?_
      refine pl_end (by kernel_rfl) ?_
      refine ej_blk (ej_th ?_)
      refine cj_regionG (gj_step (y_move rfl) rfl rfl rfl (gj_step (y_add rfl rfl (by omega)) rfl rfl rfl (gj_step (y_assign rfl) rfl rfl rfl (gj_nil ?_))))
      exact ej_nx (k + 1, max r (rungR st lad b.most)) (by simp only; omega) ⟨by first | omega | (simp only; omega), hsk⟩ ⟨rfl, rfl, rfl, rfl, rfl, rfl, trivial⟩
    · have h24b := h24
      try simp only [sxb] at h24
      rw [if_neg (by simpa using h24b)] at hsk
      refine cj_skip (ej_blk (ej_th ?_))
      refine cj_regionG (gj_step (y_move rfl) rfl rfl rfl (gj_step (y_add rfl rfl (by omega)) rfl rfl rfl (gj_step (y_assign rfl) rfl rfl rfl (gj_nil ?_))))
      exact ej_nx (k + 1, r) (by simp only; omega) ⟨by first | omega | (simp only; omega), hsk⟩ ⟨rfl, rfl, rfl, rfl, rfl, rfl, trivial⟩
  · have h15b := h15
    try simp only [sxb] at h15
    rw [List.drop_of_length_le (by omega)] at hsk
    have hr : r = rngO i (rgL lad st) bs 0 := hsk
    subst hr
    refine cj_exit (ej_then_exit (ej_then_exit (ej_blk_hit (ej_th (cj_seq (cj_region ?_))))))
    refine oj_step (y_fa fa95_1 rfl) rfl rfl rfl ?_
    refine oj_store rfl rfl rfl rfl Try.sizeOf3 rfl ?_
    refine oj_nil ?_
    refine ej_th (cj_seq (cj_seq ?_))
    refine cj_regionG (gj_step (y_assign rfl) rfl rfl rfl (gj_nil ?_))
    refine ej_th (cj_block ?_)
    refine cj_lpi (X := Nat × Int) [(1, _), (2, _), (3, _), (6, _), (7, _)] (fun ⟨k, wy⟩ => k ≤ bs.length ∧ wayO i (rgL lad st) (rngO i (rgL lad st) bs 0) (bs.drop k) wy = wayO i (rgL lad st) (rngO i (rgL lad st) bs 0) bs 9) (fun ⟨k, wy⟩ => [(9, .int .i64 k)]) (fun ⟨k, wy⟩ => [ownB b7 (cellsB 95 [.int .i64 (rngO i (rgL lad st) bs 0), .int .i64 wy, .int .i64 i]), ownB b6 (cellsB 95 [.int .i64 0, .int .i64 0, .int .i64 0]), ownB b3 (cellsB 24 [.int .i64 st, .int .i64 rv, .slice Al lad.length cl])]) (fun ⟨k, wy⟩ => [sl (fun b => b < w.heap.size) 2 encRi Al lad, sl (fun b => b < w.heap.size) 3 encBi Ab bs]) (fun ⟨k, wy⟩ => bs.length - k) (0, 9) (⟨Nat.zero_le _, rfl⟩) ⟨rfl, rfl, rfl, rfl, rfl, rfl, trivial⟩ ?_
    rintro ⟨k, wy⟩ ⟨hk, hsk⟩
    dsimp only [List.cons_append, List.nil_append]
    refine cj_seq (cj_seq ?_)
    refine cj_regionG (gj_step (y_move rfl) rfl rfl rfl (gj_step (y_move rfl) rfl rfl rfl (gj_step (y_lenA Try.underlying32 rfl) rfl rfl rfl (gj_step (y_lss rfl rfl) rfl rfl rfl (gj_nil ?_)))))
    refine ej_th ?_
    refine cj_cond rfl (fun h40 => ?_) (fun h40 => ?_)
    · have h40b := h40
      try simp only [sxb] at h40
      obtain ⟨b, hx⟩ : ∃ b, bs[k]? = some b := ⟨_, List.getElem?_eq_getElem (by omega)⟩
      rw [wayO_drop i (rgL lad st) _ bs k b wy hx] at hsk
      have hi : (0 : Int) ≤ k ∧ (k : Int) < bs.length := by omega
      refine cj_skip (ej_th (cj_seq (cj_block (cj_seq ?_))))
      refine cj_draw (by kernel_rfl) (by kernel_rfl) ?_
      refine gj_step (y_move rfl) rfl rfl rfl (gj_step (y_move rfl) rfl rfl rfl (gj_step (y_ixR (reads_sl) Try.underlying32 Try.sizeOf53 rfl rfl (hi)) rfl rfl rfl (gj_step (y_faE fa53_0 rfl) rfl rfl rfl (gj_step (y_ld1 (reads_sl) Try.isAgg3 rfl (hx) rfl) rfl rfl rfl (gj_step (y_move rfl) rfl rfl rfl (gj_step (y_eql rfl rfl) rfl rfl rfl (gj_step (y_move rfl) rfl rfl rfl (?_))))))))
      refine gj_g 10 50 60 rfl rfl rfl rfl (fun hg50 => gj_yes rfl rfl rfl (y_loadN Try.isAgg24 Try.sizeOf24 rfl) rfl rfl (gj_yes rfl rfl rfl (y_move rfl) rfl rfl (gj_yes rfl rfl rfl (y_move rfl) rfl rfl (gj_yes rfl rfl rfl (y_ixR (reads_sl) Try.underlying32 Try.sizeOf53 rfl rfl (hi)) rfl rfl (gj_yes rfl rfl rfl (y_faE fa53_2 rfl) rfl rfl (gj_yes rfl rfl rfl (y_ld1 (reads_sl) Try.isAgg3 rfl (hx) rfl) rfl rfl (gj_yes rfl rfl rfl (y_call Try.call48 rfl (fun w hp => k_rrung st rv lad Al cl b.most w hp.rd hok)) rfl rfl (gj_yes rfl rfl rfl (y_fa0 fa95_0 rfl) rfl rfl (gj_yes rfl rfl rfl (y_load1 Try.isAgg3 rfl rfl) rfl rfl (gj_yes rfl rfl rfl (y_eql rfl rfl) rfl rfl (gj_nil rfl))))))))))) ?_
      refine gj_step (y_and rfl rfl rfl) rfl rfl rfl (?_)
      refine gj_nil ?_
      refine ej_th ?_
      refine cj_cond rfl (fun h61 => ?_) (fun h61 => ?_)
      · have h61b := h61
        try simp only [sxb] at h61
        rw [if_pos (by simpa [rungR] using h61b)] at hsk
        refine cj_plan 10 (by kernel_rfl) (by kernel_rfl) ?_
        refine pl_y 0 rfl (y_fa fa95_1 rfl) rfl rfl rfl rfl (by kernel_rfl) ?_
        refine pl_y 1 rfl (y_load1 Try.isAgg3 rfl rfl) rfl rfl rfl rfl (by kernel_rfl) ?_
        refine pl_y 2 rfl (y_move rfl) rfl rfl rfl rfl (by kernel_rfl) ?_
        refine pl_y 3 rfl (y_move rfl) rfl rfl rfl rfl (by kernel_rfl) ?_
        refine pl_y 4 rfl (y_ixR (reads_sl) Try.underlying32 Try.sizeOf53 rfl rfl (hi)) rfl rfl rfl rfl (by kernel_rfl) ?_
        refine pl_y 5 rfl (y_faE fa53_1 rfl) rfl rfl rfl rfl (by kernel_rfl) ?_
        refine pl_y 6 rfl (y_ld1 (reads_sl) Try.isAgg3 rfl (hx) rfl) rfl rfl rfl rfl (by kernel_rfl) ?_
        refine pl_y 7 rfl (y_min rfl rfl) rfl rfl rfl rfl (by kernel_rfl) ?_
        refine pl_y 8 rfl (y_fa fa95_1 rfl) rfl rfl rfl rfl (by kernel_rfl) ?_
        refine pl_w1 9 (by kernel_rfl) rfl rfl (pl_fire rfl rfl rfl (by kernel_rfl) ?_)
        refine oj_store rfl rfl rfl rfl Try.sizeOf3 rfl ?_
        refine oj_nil ?_
        refine ej_pl (lt_w (by kernel_rfl) (lt_w (by kernel_rfl) (lt_w (by kernel_rfl) (lt_w (by kernel_rfl) (lt_w (by kernel_rfl) (lt_w (by kernel_rfl) (lt_w (by kernel_rfl) (lt_w (by kernel_rfl) (lt_w (by kernel_rfl) (lt_nil)))))))))) ?_
        refine pl_end (by kernel_rfl) ?_
        refine ej_blk (ej_th ?_)
        refine cj_regionG (gj_step (y_move rfl) rfl rfl rfl (gj_step (y_add rfl rfl (by omega)) rfl rfl rfl (gj_step (y_assign rfl) rfl rfl rfl (gj_nil ?_))))
        exact ej_nx (k + 1, min wy b.way) (by simp only; omega) ⟨by first | omega | (simp only; omega), hsk⟩ ⟨rfl, rfl, rfl, rfl, rfl, rfl, trivial⟩
      · have h61b := h61
        try simp only [sxb] at h61
        rw [if_neg (by simpa [rungR] using h61b)] at hsk
        refine cj_skip (ej_blk (ej_th ?_))
        refine cj_regionG (gj_step (y_move rfl) rfl rfl rfl (gj_step (y_add rfl rfl (by omega)) rfl rfl rfl (gj_step (y_assign rfl) rfl rfl rfl (gj_nil ?_))))
        exact ej_nx (k + 1, wy) (by simp only; omega) ⟨by first | omega | (simp only; omega), hsk⟩ ⟨rfl, rfl, rfl, rfl, rfl, rfl, trivial⟩
    · have h40b := h40
      try simp only [sxb] at h40
      rw [List.drop_of_length_le (by omega)] at hsk
      have hwy : wy = wayO i (rgL lad st) (rngO i (rgL lad st) bs 0) bs 9 := hsk
      subst hwy
      refine cj_exit (ej_then_exit (ej_then_exit (ej_blk_hit (ej_th (cj_seq (cj_region ?_))))))
      refine oj_step (y_loadN Try.isAgg95 Try.sizeOf95 rfl) rfl rfl rfl ?_
      refine oj_store rfl rfl rfl rfl Try.sizeOf95 rfl ?_
      refine oj_nil ?_
      refine ej_th (cj_ret ?_)
      refine ej_retC1 rfl Try.results58 rfl (y_loadN Try.isAgg95 Try.sizeOf95 rfl) (fun w' hp => ⟨?_, hp.below⟩)
      rfl

theorem k_rprice (st rv : Int) (lad : List RiseV) (Al : Option Addr) (cl : Nat) (limit second : Int) (w : World) (hlad : Rd w 2 encRi Al lad) (hll : LadOk lad) (hs : 0 ≤ second ∧ second ≤ 300000) : Calls Try.prog 61 #[.agg #[.int .i64 st, .int .i64 rv, .slice Al lad.length cl], .int .i64 limit, .int .i64 second] w (fun e w' => e = .returned (.int .i64 (priceR lad st limit second)) ∧ Grow w w') := by
  refine enter_pure (args := [.agg #[.int .i64 st, .int .i64 rv, .slice Al lad.length cl], .int .i64 limit, .int .i64 second]) [sl (fun b => b < w.heap.size) 2 encRi Al lad] Try.func61 rfl (by rw [Try.ntmps61]; simp) (fun g hg => by simp at hg; subst hg; exact ⟨hlad, fun _ h => h⟩) ?_
  refine cj_seq (cj_region ?_)
  refine oj_box rfl rfl rfl (fun b3 => ?_)
  refine oj_step (y_assign rfl) rfl rfl rfl ?_
  refine oj_nil ?_
  refine ej_th (cj_block (cj_seq ?_))
  refine cj_regionG (gj_step (y_move rfl) rfl rfl rfl (gj_step (y_move rfl) rfl rfl rfl (gj_step (y_eql rfl rfl) rfl rfl rfl (gj_step (y_assign rfl) rfl rfl rfl (gj_nil ?_)))))
  refine ej_th ?_
  refine cj_cond rfl (fun h10 => ?_) (fun h10 => ?_)
  · have h10b := h10
    try simp only [sxb] at h10
    refine cj_seq ?_
    refine cj_regionG (gj_step (y_move rfl) rfl rfl rfl (gj_step (y_assign rfl) rfl rfl rfl (gj_nil ?_)))
    refine ej_th (cj_ret (ej_blk_ret ?_))
    refine ej_ret1 rfl Try.results61 rfl (fun w' hp => ⟨?_, hp.below⟩)
    rw [priceR, if_pos (by simpa using h10b)]
  · have h10b := h10
    try simp only [sxb] at h10
    refine cj_seq ?_
    refine cj_regionG (gj_step (y_move rfl) rfl rfl rfl (gj_step (y_eql rfl rfl) rfl rfl rfl (gj_step (y_assign rfl) rfl rfl rfl (gj_nil ?_))))
    refine ej_th ?_
    refine cj_cond rfl (fun h15 => ?_) (fun h15 => ?_)
    · have h15b := h15
      try simp only [sxb] at h15
      refine cj_seq ?_
      refine cj_regionG (gj_step (y_fa0 fa24_0 rfl) rfl rfl rfl (gj_step (y_load1 Try.isAgg3 rfl rfl) rfl rfl rfl (gj_step (y_assign rfl) rfl rfl rfl (gj_nil ?_))))
      refine ej_th (cj_ret (ej_blk_ret ?_))
      refine ej_ret1 rfl Try.results61 rfl (fun w' hp => ⟨?_, hp.below⟩)
      rw [priceR, if_neg (by simpa using h10b), if_pos (by simpa using h15b)]
    · have h15b := h15
      try simp only [sxb] at h15
      refine cj_seq ?_
      refine cj_regionG ?_
      refine gj_step (y_loadN Try.isAgg24 Try.sizeOf24 rfl) rfl rfl rfl (gj_step (y_move rfl) rfl rfl rfl (?_))
      refine gj_step (y_call Try.call51 rfl (fun w hp => k_rbehind st rv lad Al cl second w hp.rd hll (by omega))) rfl rfl rfl ?_
      refine gj_step (y_assign rfl) rfl rfl rfl (?_)
      refine gj_nil ?_
      refine ej_th (cj_ret (ej_blk_ret ?_))
      refine ej_ret1 rfl Try.results61 rfl (fun w' hp => ⟨?_, hp.below⟩)
      rw [priceR, if_neg (by simpa using h10b), if_neg (by simpa using h15b)]

theorem k_rSell (st rv : Int) (lad : List RiseV) (Al : Option Addr) (cl : Nat) (bs : List BidV) (Ab : Option Addr) (cb : Nat) (w : World) (hlad : Rd w 2 encRi Al lad) (hbs : Rd w 3 encBi Ab bs) : Calls Try.prog 23 #[.agg #[.int .i64 st, .int .i64 rv, .slice Al lad.length cl], .slice Ab bs.length cb] w (fun e w' => e = .returned (.tuple #[.agg #[.int .i64 ((SellV st rv lad bs)).winner, .int .i64 ((SellV st rv lad bs)).price], .int .i64 (SellE st rv lad bs)]) ∧ Grow w w') := by
  have hlen := hbs.len
  refine enter_pure (args := [.agg #[.int .i64 st, .int .i64 rv, .slice Al lad.length cl], .slice Ab bs.length cb]) [sl (fun b => b < w.heap.size) 2 encRi Al lad, sl (fun b => b < w.heap.size) 3 encBi Ab bs] Try.func23 rfl (by rw [Try.ntmps23]; simp) (fun g hg => by simp at hg; rcases hg with rfl | rfl; exact ⟨hlad, fun _ h => h⟩; exact ⟨hbs, fun _ h => h⟩) ?_
  refine cj_seq (cj_region ?_)
  refine oj_box rfl rfl rfl (fun b2 => ?_)
  refine oj_alloc Try.zeroValue34 rfl rfl (fun b4 => ?_)
  refine oj_step (y_assign rfl) rfl rfl rfl ?_
  refine oj_nil ?_
  refine ej_th (cj_seq (cj_seq ?_))
  refine cj_regionG ?_
  refine gj_step (y_loadN Try.isAgg24 Try.sizeOf24 rfl) rfl rfl rfl (?_)
  refine gj_step (y_call Try.call18 rfl (fun w hp => k_rCheck st rv lad Al cl w hp.rd)) rfl rfl rfl ?_
  refine gj_step (y_assign rfl) rfl rfl rfl (?_)
  refine gj_nil ?_
  refine ej_th (cj_seq ?_)
  refine cj_regionG (gj_step (y_move rfl) rfl rfl rfl (gj_step (y_neq rfl rfl) rfl rfl rfl (gj_nil ?_)))
  refine ej_th ?_
  refine cj_cond rfl (fun h15 => ?_) (fun h15 => ?_)
  · have h15b := h15
    try simp only [sxb] at h15
    obtain ⟨e1, e2⟩ := sell_no (bs := bs) (lotE_no h15b)
    have hno := lotE_no h15b
    refine cj_seq (cj_region ?_)
    refine oj_step (y_build st34 rfl rfl) rfl rfl rfl ?_
    refine oj_step (y_move rfl) rfl rfl rfl ?_
    refine oj_store rfl rfl rfl rfl Try.sizeOf34 rfl ?_
    refine oj_step (y_assign rfl) rfl rfl rfl ?_
    refine oj_nil ?_
    refine ej_th (cj_ret (ej_then_ret ?_))
    refine ej_retC2 rfl Try.results23 rfl (y_loadN Try.isAgg34 Try.sizeOf34 rfl) rfl (fun w' hp => ⟨?_, hp.below⟩)
    rw [e1, e2, lotE, hno]; rfl
  · have h15b := h15
    try simp only [sxb] at h15
    have hyes := lotE_0 h15b
    have hok := lot_ok hyes
    refine cj_skip (ej_th (cj_seq (cj_seq ?_)))
    refine cj_regionG ?_
    refine gj_step (y_move rfl) rfl rfl rfl (?_)
    refine gj_step (y_call Try.call57 rfl (fun w hp => k_bidding bs Ab cb w hp.rd)) rfl rfl rfl ?_
    refine gj_step (y_not rfl) rfl rfl rfl (?_)
    refine gj_nil ?_
    refine ej_th ?_
    refine cj_cond rfl (fun h20 => ?_) (fun h20 => ?_)
    · have h20b := h20
      try simp only [sxb] at h20
      obtain ⟨e1, e2⟩ := sell_no2 hyes (not_t h20b)
      refine cj_seq (cj_region ?_)
      refine oj_step (y_build st34 rfl rfl) rfl rfl rfl ?_
      refine oj_store rfl rfl rfl rfl Try.sizeOf34 rfl ?_
      refine oj_step (y_assign rfl) rfl rfl rfl ?_
      refine oj_nil ?_
      refine ej_th (cj_ret (ej_then_ret ?_))
      refine ej_retC2 rfl Try.results23 rfl (y_loadN Try.isAgg34 Try.sizeOf34 rfl) rfl (fun w' hp => ⟨?_, hp.below⟩)
      rw [e1, e2]
    · have h20b := h20
      try simp only [sxb] at h20
      have hby := not_f h20b
      have hbo := bids_ok hby
      obtain ⟨e1, e2⟩ := rsell_yes hyes hby
      refine cj_skip (ej_th (cj_seq (cj_region ?_)))
      refine oj_alloc Try.zeroValue95 rfl rfl (fun b7 => ?_)
      refine oj_nil ?_
      refine ej_th (cj_seq ?_)
      refine cj_regionG (gj_step (y_assign rfl) rfl rfl rfl (gj_nil ?_))
      refine ej_th (cj_seq (cj_seq ?_))
      refine cj_regionG (gj_step (y_assign rfl) rfl rfl rfl (gj_nil ?_))
      refine ej_th (cj_block ?_)
      refine cj_eqO [ownB b7 (cellsB 95 [.int .i64 (winR (rgL lad st) bs 0).1.most, .int .i64 (winR (rgL lad st) bs 0).1.way, .int .i64 (winR (rgL lad st) bs 0).1.who]), ownB b4 (cellsB 34 [.int .i64 0, .int .i64 0]), ownB b2 (cellsB 24 [.int .i64 st, .int .i64 rv, .slice Al lad.length cl])] rfl ?_
      refine cj_lpi (X := Nat) [(1, _), (2, _), (4, _), (5, _), (7, _)] (fun i => i ≤ 100) (fun i => [(8, .int .i64 (winR (rgL lad st) bs i).2), (9, .int .i64 (i : Nat))]) (fun i => [ownB b7 (cellsB 95 [.int .i64 (winR (rgL lad st) bs i).1.most, .int .i64 (winR (rgL lad st) bs i).1.way, .int .i64 (winR (rgL lad st) bs i).1.who]), ownB b4 (cellsB 34 [.int .i64 0, .int .i64 0]), ownB b2 (cellsB 24 [.int .i64 st, .int .i64 rv, .slice Al lad.length cl])]) (fun i => [sl (fun b => b < w.heap.size) 2 encRi Al lad, sl (fun b => b < w.heap.size) 3 encBi Ab bs]) (fun i => 100 - i) 0 (Nat.zero_le _) ⟨rfl, rfl, rfl, rfl, rfl, rfl, rfl, trivial⟩ ?_
      rintro i hi
      dsimp only [List.cons_append, List.nil_append]
      refine cj_seq (cj_seq ?_)
      refine cj_regionG (gj_step (y_move rfl) rfl rfl rfl (gj_step (y_lss rfl rfl) rfl rfl rfl (gj_nil ?_)))
      refine ej_th ?_
      refine cj_cond rfl (fun h23 => ?_) (fun h23 => ?_)
      · have h23b := h23
        try simp only [sxb] at h23
        refine cj_skip (ej_th (cj_seq (cj_block (cj_seq (cj_region ?_)))))
        refine oj_step (y_loadN Try.isAgg24 Try.sizeOf24 rfl) rfl rfl rfl ?_
        refine oj_step (y_move rfl) rfl rfl rfl ?_
        refine oj_step (y_move rfl) rfl rfl rfl ?_
        refine oj_step (y_call Try.call58 rfl (fun w hp => k_roffer st rv lad Al cl bs Ab cb i w hp.rd hp.rd hok)) rfl rfl rfl ?_
        refine oj_alloc Try.zeroValue95 rfl rfl (fun b10 => ?_)
        refine oj_store rfl rfl rfl rfl Try.sizeOf95 rfl ?_
        refine oj_nil ?_
        refine ej_th (cj_seq (cj_seq ?_))
        refine cj_regionG (gj_step (y_fa0 fa95_0 rfl) rfl rfl rfl (gj_step (y_load1 Try.isAgg3 rfl rfl) rfl rfl rfl (gj_step (y_eql rfl rfl) rfl rfl rfl (gj_nil ?_))))
        refine ej_th ?_
        refine cj_cond rfl (fun h32 => ?_) (fun h32 => ?_)
        · have h32b := h32
          try simp only [sxb] at h32
          have hw0 := winR_0 (by simpa using h32b)
          refine cj_exit (ej_then_exit (ej_blk_hit (ej_th ?_)))
          refine cj_regionG (gj_step (y_move rfl) rfl rfl rfl (gj_step (y_add rfl rfl (by omega)) rfl rfl rfl (gj_step (y_assign rfl) rfl rfl rfl (gj_nil ?_))))
          rw [← hw0]
          exact ej_nx (i + 1) (by omega) (by omega) ⟨rfl, rfl, rfl, rfl, rfl, rfl, rfl, trivial⟩
        · have h32b := h32
          try simp only [sxb] at h32
          have hne : (refOff (rgL lad st) bs i).most ≠ 0 := by simpa using h32b
          refine cj_skip (ej_th (cj_seq (cj_seq ?_)))
          refine cj_regionG ?_
          refine gj_step (y_loadN Try.isAgg95 Try.sizeOf95 rfl) rfl rfl rfl (gj_step (y_loadN Try.isAgg95 Try.sizeOf95 rfl) rfl rfl rfl (?_))
          refine gj_step (y_call Try.call59 rfl (fun w hp => k_rbeats (refOff (rgL lad st) bs i) (winR (rgL lad st) bs i).1 w)) rfl rfl rfl ?_
          refine gj_nil ?_
          refine ej_th ?_
          refine cj_cond rfl (fun h35 => ?_) (fun h35 => ?_)
          · have h35b := h35
            try simp only [sxb] at h35
            have hwy := winR_y hne h35b
            refine cj_region ?_
            refine oj_step (y_loadN Try.isAgg95 Try.sizeOf95 rfl) rfl rfl rfl ?_
            refine oj_step (y_loadN Try.isAgg95 Try.sizeOf95 rfl) rfl rfl rfl ?_
            refine oj_store rfl rfl rfl rfl Try.sizeOf95 rfl ?_
            refine oj_store rfl rfl rfl rfl Try.sizeOf95 rfl ?_
            refine oj_nil ?_
            refine ej_th ?_
            refine cj_regionG (gj_step (y_move rfl) rfl rfl rfl (gj_step (y_fa0 fa95_0 rfl) rfl rfl rfl (gj_step (y_load1 Try.isAgg3 rfl rfl) rfl rfl rfl (gj_step (y_max rfl rfl) rfl rfl rfl (gj_step (y_assign rfl) rfl rfl rfl (gj_nil ?_))))))
            refine ej_blk (ej_th ?_)
            refine cj_regionG (gj_step (y_move rfl) rfl rfl rfl (gj_step (y_add rfl rfl (by omega)) rfl rfl rfl (gj_step (y_assign rfl) rfl rfl rfl (gj_nil ?_))))
            have e1 : (winR (rgL lad st) bs (i + 1)).1 = refOff (rgL lad st) bs i := by rw [hwy]
            have e2 : (winR (rgL lad st) bs (i + 1)).2 = max (winR (rgL lad st) bs i).2 (winR (rgL lad st) bs i).1.most := by rw [hwy]
            rw [← e1, ← e2]
            exact ej_nx (i + 1) (by omega) (by omega) ⟨rfl, rfl, rfl, rfl, rfl, rfl, rfl, trivial⟩
          · have h35b := h35
            try simp only [sxb] at h35
            have hwn := winR_n hne h35b
            refine cj_skip (ej_th ?_)
            refine cj_regionG (gj_step (y_move rfl) rfl rfl rfl (gj_step (y_fa0 fa95_0 rfl) rfl rfl rfl (gj_step (y_load1 Try.isAgg3 rfl rfl) rfl rfl rfl (gj_step (y_max rfl rfl) rfl rfl rfl (gj_step (y_assign rfl) rfl rfl rfl (gj_nil ?_))))))
            refine ej_blk (ej_th ?_)
            refine cj_regionG (gj_step (y_move rfl) rfl rfl rfl (gj_step (y_add rfl rfl (by omega)) rfl rfl rfl (gj_step (y_assign rfl) rfl rfl rfl (gj_nil ?_))))
            have e1 : (winR (rgL lad st) bs (i + 1)).1 = (winR (rgL lad st) bs i).1 := by rw [hwn]
            have e2 : (winR (rgL lad st) bs (i + 1)).2 = max (winR (rgL lad st) bs i).2 (refOff (rgL lad st) bs i).most := by rw [hwn]
            rw [← e2, ← e1]
            exact ej_nx (i + 1) (by omega) (by omega) ⟨rfl, rfl, rfl, rfl, rfl, rfl, rfl, trivial⟩
      · have h23b := h23
        try simp only [sxb] at h23
        have hi100 : i = 100 := by omega
        subst hi100
        refine cj_exit (ej_then_exit (ej_then_exit (ej_blk_hit (ej_th (cj_seq ?_)))))
        refine cj_regionG ?_
        refine gj_step (y_loadN Try.isAgg24 Try.sizeOf24 rfl) rfl rfl rfl (?_)
        refine gj_step (y_call Try.call60 rfl (fun w hp => k_rreserve st rv lad Al cl w hp.rd hok)) rfl rfl rfl ?_
        refine gj_step (y_assign rfl) rfl rfl rfl (?_)
        refine gj_nil ?_
        refine ej_th (cj_seq (cj_seq ?_))
        refine cj_regionG (gj_step (y_fa0 fa95_0 rfl) rfl rfl rfl (gj_step (y_load1 Try.isAgg3 rfl rfl) rfl rfl rfl (gj_step (y_eql rfl rfl) rfl rfl rfl (gj_step (y_move rfl) rfl rfl rfl (gj_g 2 47 49 rfl rfl rfl rfl (fun hg47 => gj_yes rfl rfl rfl (y_move rfl) rfl rfl (gj_yes rfl rfl rfl (y_eql rfl rfl) rfl rfl (gj_nil rfl))) (gj_step (y_or rfl rfl rfl) rfl rfl rfl (gj_step (y_move rfl) rfl rfl rfl (gj_g 4 51 55 rfl rfl rfl rfl (fun hg51 => gj_yes rfl rfl rfl (y_fa0 fa95_0 rfl) rfl rfl (gj_yes rfl rfl rfl (y_load1 Try.isAgg3 rfl rfl) rfl rfl (gj_yes rfl rfl rfl (y_move rfl) rfl rfl (gj_yes rfl rfl rfl (y_lss rfl rfl) rfl rfl (gj_nil rfl))))) (gj_step (y_or rfl rfl rfl) rfl rfl rfl (gj_nil ?_))))))))))
        refine ej_th ?_
        refine cj_cond rfl (fun h56 => ?_) (fun h56 => ?_)
        · have h56b := h56
          try simp only [sxb] at h56
          have hkr := knockR_no (lad := lad) (start := st) h56b
          rw [hkr] at e1
          refine cj_seq (cj_region ?_)
          refine oj_step (y_build (cs := [.int .i64 (-1), .int .i64 0]) st34 rfl (by kernel_rfl)) rfl rfl rfl ?_
          refine oj_store rfl rfl rfl rfl Try.sizeOf34 rfl ?_
          refine oj_step (y_assign rfl) rfl rfl rfl ?_
          refine oj_nil ?_
          refine ej_th (cj_ret (ej_then_ret ?_))
          refine ej_retC2 rfl Try.results23 rfl (y_loadN Try.isAgg34 Try.sizeOf34 rfl) rfl (fun w' hp => ⟨?_, hp.below⟩)
          rw [e1, e2]
        · have h56b := h56
          try simp only [sxb] at h56
          have hkr := knockR_yes (lad := lad) (start := st) h56b
          rw [hkr] at e1
          refine cj_skip (ej_th (cj_seq ?_))
          refine cj_plan 12 (by kernel_rfl) (by kernel_rfl) ?_
          refine pl_y 0 rfl (y_fa fa95_2 rfl) rfl rfl rfl rfl (by kernel_rfl) ?_
          refine pl_y 1 rfl (y_load1 Try.isAgg3 rfl rfl) rfl rfl rfl rfl (by kernel_rfl) ?_
          refine pl_y 2 rfl (y_move rfl) rfl rfl rfl rfl (by kernel_rfl) ?_
          refine pl_y 3 rfl (y_loadN Try.isAgg24 Try.sizeOf24 rfl) rfl rfl rfl rfl (by kernel_rfl) ?_
          refine pl_y 4 rfl (y_fa0 fa95_0 rfl) rfl rfl rfl rfl (by kernel_rfl) ?_
          refine pl_y 5 rfl (y_load1 Try.isAgg3 rfl rfl) rfl rfl rfl rfl (by kernel_rfl) ?_
          refine pl_y 6 rfl (y_move rfl) rfl rfl rfl rfl (by kernel_rfl) ?_
          refine pl_y 7 rfl (y_call Try.call61 rfl (fun w hp => k_rprice st rv lad Al cl (winR (rgL lad st) bs 100).1.most (winR (rgL lad st) bs 100).2 w hp.rd hok.lad (by have := winR_bd hok hbo.2 100; omega))) rfl rfl rfl rfl (by kernel_rfl) ?_
          refine pl_y 8 rfl (y_max rfl rfl) rfl rfl rfl rfl (by kernel_rfl) ?_
          refine pl_y 9 rfl (y_build (cs := [.int .i64 (winR (rgL lad st) bs 100).1.who, .int .i64 (max (leastR st rv lad) (priceR lad st (winR (rgL lad st) bs 100).1.most (winR (rgL lad st) bs 100).2))]) st34 rfl (by kernel_rfl)) rfl rfl rfl rfl (by kernel_rfl) ?_
          refine pl_w1 10 (by kernel_rfl) rfl rfl (pl_fire rfl rfl rfl (by kernel_rfl) ?_)
          refine oj_store rfl rfl rfl rfl Try.sizeOf34 rfl ?_
          refine oj_nil ?_
          refine ej_pl (lt_w (by kernel_rfl) (lt_w (by kernel_rfl) (lt_w (by kernel_rfl) (lt_w (by kernel_rfl) (lt_w (by kernel_rfl) (lt_w (by kernel_rfl) (lt_w (by kernel_rfl) (lt_w (by kernel_rfl) (lt_w (by kernel_rfl) (lt_w (by kernel_rfl) (lt_nil))))))))))) ?_
          refine pl_y 11 rfl (y_assign rfl) rfl rfl rfl rfl (by kernel_rfl) ?_
          refine pl_end (by kernel_rfl) ?_
          refine ej_th (cj_ret ?_)
          refine ej_retC2 rfl Try.results23 rfl (y_loadN Try.isAgg34 Try.sizeOf34 rfl) rfl (fun w' hp => ⟨?_, hp.below⟩)
          rw [e1, e2]

end Go.Proofs.Ytehmifpofpifkaa
namespace Go.Proofs.Ytehmifpofpifkaa
open Go.Sx Go.RowKit Am
set_option maxRecDepth 20000
theorem k_bid (st rv : Int) (lad : List RiseV) (Al : Option Addr) (cl : Nat) (x : LeadV) (o : BidV) (b : Nat) (w : World) (hob : w.heap[b]? = some (cellsB 102 [.int .i64 st, .int .i64 rv, .slice Al lad.length cl, .int .i64 x.who, .int .i64 x.limit, .int .i64 x.way, .int .i64 x.second, .int .i64 x.price])) (hlad : RdX w b 2 encRi Al lad) (hok : LotOk st rv lad) : Calls Try.prog 62 #[.pointer (some ⟨b, 0, none⟩), evB o] w (fun e w' => e = .returned (.tuple #[]) ∧ Mut (ownB b (cellsB 102 [.int .i64 st, .int .i64 rv, .slice Al lad.length cl, .int .i64 x.who, .int .i64 x.limit, .int .i64 x.way, .int .i64 x.second, .int .i64 x.price])) w w' ∧ w'.heap[b]? = some (cellsB 102 [.int .i64 st, .int .i64 rv, .slice Al lad.length cl, .int .i64 (stepP (rgL lad st) st x o).who, .int .i64 (stepP (rgL lad st) st x o).limit, .int .i64 (stepP (rgL lad st) st x o).way, .int .i64 (stepP (rgL lad st) st x o).second, .int .i64 (stepP (rgL lad st) st x o).price])) := by
  refine enter_own (args := [.pointer (some ⟨b, 0, none⟩), evB o]) b (cellsB 102 [.int .i64 st, .int .i64 rv, .slice Al lad.length cl, .int .i64 x.who, .int .i64 x.limit, .int .i64 x.way, .int .i64 x.second, .int .i64 x.price]) [sl (fun i => i < w.heap.size ∧ i ≠ b) 2 encRi Al lad] Try.func62 rfl (by rw [Try.ntmps62]; simp) hob (fun g hg => by simp at hg; subst hg; exact ⟨hlad, fun _ h => h⟩) ?_
  refine cj_seq (cj_region ?_)
  refine oj_box rfl rfl rfl (fun b3 => ?_)
  refine oj_nil ?_
  refine ej_th (cj_seq ?_)
  refine cj_plan 19 (by kernel_rfl) (by kernel_rfl) ?_
  refine pl_y 0 rfl (y_move rfl) rfl rfl rfl rfl (by kernel_rfl) ?_
  refine pl_y 1 rfl (y_nil rfl) rfl rfl rfl rfl (by kernel_rfl) ?_
  refine pl_y 2 rfl (y_fa fa102_1 rfl) rfl rfl rfl rfl (by kernel_rfl) ?_
  refine pl_y 3 rfl (y_fa0 fa41_0 rfl) rfl rfl rfl rfl (by kernel_rfl) ?_
  refine pl_y 4 rfl (y_load1 Try.isAgg3 rfl rfl) rfl rfl rfl rfl (by kernel_rfl) ?_
  refine pl_y 5 rfl (y_move rfl) rfl rfl rfl rfl (by kernel_rfl) ?_
  refine pl_y 6 rfl (y_nil rfl) rfl rfl rfl rfl (by kernel_rfl) ?_
  refine pl_y 7 rfl (y_fa fa102_1 rfl) rfl rfl rfl rfl (by kernel_rfl) ?_
  refine pl_y 8 rfl (y_fa fa41_2 rfl) rfl rfl rfl rfl (by kernel_rfl) ?_
  refine pl_y 9 rfl (y_load1 Try.isAgg3 rfl rfl) rfl rfl rfl rfl (by kernel_rfl) ?_
  refine pl_y 10 rfl (y_move rfl) rfl rfl rfl rfl (by kernel_rfl) ?_
  refine pl_y 11 rfl (y_nil rfl) rfl rfl rfl rfl (by kernel_rfl) ?_
  refine pl_y 12 rfl (y_fa fa102_1 rfl) rfl rfl rfl rfl (by kernel_rfl) ?_
  refine pl_y 13 rfl (y_fa fa41_1 rfl) rfl rfl rfl rfl (by kernel_rfl) ?_
  refine pl_y 14 rfl (y_load1 Try.isAgg3 rfl rfl) rfl rfl rfl rfl (by kernel_rfl) ?_
  refine pl_y 15 rfl (y_build (cs := [.int .i64 x.who, .int .i64 x.way, .int .i64 x.limit]) st53 rfl (by kernel_rfl)) rfl rfl rfl rfl (by kernel_rfl) ?_
  refine pl_y 16 rfl (y_build (cs := [.int .i64 x.who, .int .i64 x.way, .int .i64 x.limit]) st93 rfl (by kernel_rfl)) rfl rfl rfl rfl (by kernel_rfl) ?_
  refine pl_w1 17 (by kernel_rfl) rfl rfl (pl_fire rfl rfl rfl (by kernel_rfl) ?_)
  refine oj_alloc Try.zeroValue93 rfl rfl (fun b4 => ?_)
  refine oj_nil ?_
  refine ej_pl (lt_y (y_build (cs := [.int .i64 x.who, .int .i64 x.way, .int .i64 x.limit]) st93 rfl (by kernel_rfl)) rfl (lt_y (y_build (cs := [.int .i64 x.who, .int .i64 x.way, .int .i64 x.limit]) st53 rfl (by kernel_rfl)) rfl (lt_y (y_load1 Try.isAgg3 rfl rfl) rfl (lt_y (y_fa fa41_1 rfl) rfl (lt_y (y_fa fa102_1 rfl) rfl (lt_y (y_nil rfl) rfl (lt_y (y_move rfl) rfl (lt_y (y_load1 Try.isAgg3 rfl rfl) rfl (lt_y (y_fa fa41_2 rfl) rfl (lt_y (y_fa fa102_1 rfl) rfl (lt_y (y_nil rfl) rfl (lt_y (y_move rfl) rfl (lt_y (y_load1 Try.isAgg3 rfl rfl) rfl (lt_y (y_fa0 fa41_0 rfl) rfl (lt_y (y_fa fa102_1 rfl) rfl (lt_y (y_nil rfl) rfl (lt_y (y_move rfl) rfl (lt_nil)))))))))))))))))) ?_
  refine pl_w1 18 (by kernel_rfl) rfl rfl (pl_fire rfl rfl rfl (by kernel_rfl) ?_)
  refine oj_store rfl rfl rfl rfl Try.sizeOf93 rfl ?_
  refine oj_nil ?_
  refine ej_pl (lt_w (by kernel_rfl) (lt_w (by kernel_rfl) (lt_w (by kernel_rfl) (lt_w (by kernel_rfl) (lt_w (by kernel_rfl) (lt_w (by kernel_rfl) (lt_w (by kernel_rfl) (lt_w (by kernel_rfl) (lt_w (by kernel_rfl) (lt_w (by kernel_rfl) (lt_w (by kernel_rfl) (lt_w (by kernel_rfl) (lt_w (by kernel_rfl) (lt_w (by kernel_rfl) (lt_w (by kernel_rfl) (lt_w (by kernel_rfl) (lt_w (by kernel_rfl) (lt_nil)))))))))))))))))) ?_
  refine pl_end (by kernel_rfl) ?_
  refine ej_th (cj_seq (cj_block (cj_seq (cj_block (cj_seq (cj_block (cj_block (cj_seq (cj_block (cj_seq (cj_seq (cj_seq ?_))))))))))))
  refine cj_draw (by kernel_rfl) (by kernel_rfl) (gj_step (y_move rfl) rfl rfl rfl (gj_step (y_nil rfl) rfl rfl rfl (gj_step (y_fa fa102_1 rfl) rfl rfl rfl (gj_step (y_fa0 fa41_0 rfl) rfl rfl rfl (gj_step (y_load1 Try.isAgg3 rfl rfl) rfl rfl rfl (gj_step (y_fa0 fa93_0 rfl) rfl rfl rfl (gj_step (y_fa0 fa53_0 rfl) rfl rfl rfl (gj_step (y_load1 Try.isAgg3 rfl rfl) rfl rfl rfl (gj_step (y_eql rfl rfl) rfl rfl rfl (gj_step (y_assign rfl) rfl rfl rfl (gj_nil ?_)))))))))))
  refine ej_th ?_
  refine cj_cond rfl (fun h22 => ?_) (fun h22 => ?_)
  · have h22b := h22
    try simp only [sxb] at h22
    refine cj_exit (ej_then_exit (ej_then_exit (ej_blk_hit (ej_th (cj_seq (cj_seq ?_))))))
    refine cj_regionG ?_
    refine gj_step (y_loadN Try.isAgg93 Try.sizeOf93 rfl) rfl rfl rfl (gj_step (y_loadN Try.isAgg93 Try.sizeOf93 rfl) rfl rfl rfl (?_))
    refine gj_step (y_call Try.call93 rfl (fun w hp => k_beats o ⟨x.who, x.way, x.limit⟩ w)) rfl rfl rfl ?_
    refine gj_nil ?_
    refine ej_th ?_
    refine cj_cond rfl (fun h45 => ?_) (fun h45 => ?_)
    · have h45b := h45
      try simp only [sxb] at h45
      refine cj_plan 16 (by kernel_rfl) (by kernel_rfl) ?_
      refine pl_y 0 rfl (y_move rfl) rfl rfl rfl rfl (by kernel_rfl) ?_
      refine pl_y 1 rfl (y_move rfl) rfl rfl rfl rfl (by kernel_rfl) ?_
      refine pl_y 2 rfl (y_fa0 fa93_0 rfl) rfl rfl rfl rfl (by kernel_rfl) ?_
      refine pl_y 3 rfl (y_fa fa53_2 rfl) rfl rfl rfl rfl (by kernel_rfl) ?_
      refine pl_y 4 rfl (y_load1 Try.isAgg3 rfl rfl) rfl rfl rfl rfl (by kernel_rfl) ?_
      refine pl_y 5 rfl (y_fa0 fa93_0 rfl) rfl rfl rfl rfl (by kernel_rfl) ?_
      refine pl_y 6 rfl (y_fa fa53_1 rfl) rfl rfl rfl rfl (by kernel_rfl) ?_
      refine pl_y 7 rfl (y_load1 Try.isAgg3 rfl rfl) rfl rfl rfl rfl (by kernel_rfl) ?_
      refine pl_y 8 rfl (y_nil rfl) rfl rfl rfl rfl (by kernel_rfl) ?_
      refine pl_y 9 rfl (y_fa fa102_1 rfl) rfl rfl rfl rfl (by kernel_rfl) ?_
      refine pl_y 10 rfl (y_fa fa41_1 rfl) rfl rfl rfl rfl (by kernel_rfl) ?_
      refine pl_w1 11 (by kernel_rfl) rfl rfl (pl_fire rfl rfl rfl (by kernel_rfl) ?_)
      refine oj_store rfl rfl rfl rfl Try.sizeOf3 rfl ?_
      refine oj_nil ?_
      refine ej_pl (lt_w (by kernel_rfl) (lt_y (y_fa fa102_1 rfl) rfl (lt_y (y_nil rfl) rfl (lt_y (y_load1 Try.isAgg3 rfl rfl) rfl (lt_y (y_fa fa53_1 rfl) rfl (lt_y (y_fa0 fa93_0 rfl) rfl (lt_w (by kernel_rfl) (lt_w (by kernel_rfl) (lt_w (by kernel_rfl) (lt_y (y_move rfl) rfl (lt_w (by kernel_rfl) (lt_nil)))))))))))) ?_
      refine pl_y 12 rfl (y_nil rfl) rfl rfl rfl rfl (by kernel_rfl) ?_
      refine pl_y 13 rfl (y_fa fa102_1 rfl) rfl rfl rfl rfl (by kernel_rfl) ?_
      refine pl_y 14 rfl (y_fa fa41_2 rfl) rfl rfl rfl rfl (by kernel_rfl) ?_
      refine pl_w1 15 (by kernel_rfl) rfl rfl (pl_fire rfl rfl rfl (by kernel_rfl) ?_)
      refine oj_store rfl rfl rfl rfl Try.sizeOf3 rfl ?_
      refine oj_nil ?_
      refine ej_pl (lt_w (by kernel_rfl) (lt_y (y_fa fa102_1 rfl) rfl (lt_y (y_nil rfl) rfl (lt_w (by kernel_rfl) (lt_w (by kernel_rfl) (lt_w (by kernel_rfl) (lt_w (by kernel_rfl) (lt_w (by kernel_rfl) (lt_w (by kernel_rfl) (lt_w (by kernel_rfl) (lt_w (by kernel_rfl) (lt_w (by kernel_rfl) (lt_w (by kernel_rfl) (lt_w (by kernel_rfl) (lt_nil))))))))))))))) ?_
      refine pl_end (by kernel_rfl) ?_
      refine ej_th (cj_exit (ej_blk_pass rfl (ej_blk_pass rfl (ej_then_exit (ej_blk_pass rfl (ej_then_exit (ej_blk_hit (ej_th ?_))))))))
      refine cj_plan 20 (by kernel_rfl) (by kernel_rfl) ?_
      refine pl_y 0 rfl (y_move rfl) rfl rfl rfl rfl (by kernel_rfl) ?_
      refine pl_y 1 rfl (y_move rfl) rfl rfl rfl rfl (by kernel_rfl) ?_
      refine pl_y 2 rfl (y_nil rfl) rfl rfl rfl rfl (by kernel_rfl) ?_
      refine pl_y 3 rfl (y_fa0 fa102_0 rfl) rfl rfl rfl rfl (by kernel_rfl) ?_
      refine pl_y 4 rfl (y_loadN Try.isAgg85 Try.sizeOf85 rfl) rfl rfl rfl rfl (by kernel_rfl) ?_
      refine pl_y 5 rfl (y_move rfl) rfl rfl rfl rfl (by kernel_rfl) ?_
      refine pl_y 6 rfl (y_nil rfl) rfl rfl rfl rfl (by kernel_rfl) ?_
      refine pl_y 7 rfl (y_fa fa102_1 rfl) rfl rfl rfl rfl (by kernel_rfl) ?_
      refine pl_y 8 rfl (y_fa fa41_1 rfl) rfl rfl rfl rfl (by kernel_rfl) ?_
      refine pl_y 9 rfl (y_load1 Try.isAgg3 rfl rfl) rfl rfl rfl rfl (by kernel_rfl) ?_
      refine pl_y 10 rfl (y_move rfl) rfl rfl rfl rfl (by kernel_rfl) ?_
      refine pl_y 11 rfl (y_nil rfl) rfl rfl rfl rfl (by kernel_rfl) ?_
      refine pl_y 12 rfl (y_fa fa102_1 rfl) rfl rfl rfl rfl (by kernel_rfl) ?_
      refine pl_y 13 rfl (y_fa fa41_3 rfl) rfl rfl rfl rfl (by kernel_rfl) ?_
      refine pl_y 14 rfl (y_load1 Try.isAgg3 rfl rfl) rfl rfl rfl rfl (by kernel_rfl) ?_
      refine pl_y 15 rfl (y_call Try.call56 rfl (fun w hp => k_price st rv lad Al cl _ _ w hp.rd hok)) rfl rfl rfl rfl (by kernel_rfl) ?_
      refine pl_y 16 rfl (y_nil rfl) rfl rfl rfl rfl (by kernel_rfl) ?_
      refine pl_y 17 rfl (y_fa fa102_1 rfl) rfl rfl rfl rfl (by kernel_rfl) ?_
      refine pl_y 18 rfl (y_fa fa41_4 rfl) rfl rfl rfl rfl (by kernel_rfl) ?_
      refine pl_w1 19 (by kernel_rfl) rfl rfl (pl_fire rfl rfl rfl (by kernel_rfl) ?_)
      refine oj_store rfl rfl rfl rfl Try.sizeOf3 rfl ?_
      refine oj_nil ?_
      refine ej_pl (lt_w (by kernel_rfl) (lt_y (y_fa fa102_1 rfl) rfl (lt_y (y_nil rfl) rfl (lt_w (by kernel_rfl) (lt_w (by kernel_rfl) (lt_w (by kernel_rfl) (lt_w (by kernel_rfl) (lt_w (by kernel_rfl) (lt_w (by kernel_rfl) (lt_w (by kernel_rfl) (lt_w (by kernel_rfl) (lt_w (by kernel_rfl) (lt_w (by kernel_rfl) (lt_w (by kernel_rfl) (lt_w (by kernel_rfl) (lt_w (by kernel_rfl) (lt_w (by kernel_rfl) (lt_w (by kernel_rfl) (lt_w (by kernel_rfl) (lt_nil)))))))))))))))))))) ?_
      refine pl_end (by kernel_rfl) ?_
      have hE : stepP (rgL lad st) st x o = ⟨x.who, o.most, o.way, x.second, priceF (rgL lad st) st o.most x.second⟩ := by
        unfold stepP; rw [if_pos (by simpa using h22b), if_pos (show beats o ⟨x.who, x.way, x.limit⟩ = true from h45b)]
      exact ej_end0 rfl Try.results62 (fun w' hp => ⟨rfl, hp.mut, by rw [hE]; exact hp.own1⟩)
    · have h45b := h45
      try simp only [sxb] at h45
      refine cj_skip (ej_th (cj_exit (ej_blk_pass rfl (ej_blk_pass rfl (ej_then_exit (ej_blk_pass rfl (ej_then_exit (ej_blk_hit (ej_th ?_)))))))))
      refine cj_plan 20 (by kernel_rfl) (by kernel_rfl) ?_
      refine pl_y 0 rfl (y_move rfl) rfl rfl rfl rfl (by kernel_rfl) ?_
      refine pl_y 1 rfl (y_move rfl) rfl rfl rfl rfl (by kernel_rfl) ?_
      refine pl_y 2 rfl (y_nil rfl) rfl rfl rfl rfl (by kernel_rfl) ?_
      refine pl_y 3 rfl (y_fa0 fa102_0 rfl) rfl rfl rfl rfl (by kernel_rfl) ?_
      refine pl_y 4 rfl (y_loadN Try.isAgg85 Try.sizeOf85 rfl) rfl rfl rfl rfl (by kernel_rfl) ?_
      refine pl_y 5 rfl (y_move rfl) rfl rfl rfl rfl (by kernel_rfl) ?_
      refine pl_y 6 rfl (y_nil rfl) rfl rfl rfl rfl (by kernel_rfl) ?_
      refine pl_y 7 rfl (y_fa fa102_1 rfl) rfl rfl rfl rfl (by kernel_rfl) ?_
      refine pl_y 8 rfl (y_fa fa41_1 rfl) rfl rfl rfl rfl (by kernel_rfl) ?_
      refine pl_y 9 rfl (y_load1 Try.isAgg3 rfl rfl) rfl rfl rfl rfl (by kernel_rfl) ?_
      refine pl_y 10 rfl (y_move rfl) rfl rfl rfl rfl (by kernel_rfl) ?_
      refine pl_y 11 rfl (y_nil rfl) rfl rfl rfl rfl (by kernel_rfl) ?_
      refine pl_y 12 rfl (y_fa fa102_1 rfl) rfl rfl rfl rfl (by kernel_rfl) ?_
      refine pl_y 13 rfl (y_fa fa41_3 rfl) rfl rfl rfl rfl (by kernel_rfl) ?_
      refine pl_y 14 rfl (y_load1 Try.isAgg3 rfl rfl) rfl rfl rfl rfl (by kernel_rfl) ?_
      refine pl_y 15 rfl (y_call Try.call56 rfl (fun w hp => k_price st rv lad Al cl _ _ w hp.rd hok)) rfl rfl rfl rfl (by kernel_rfl) ?_
      refine pl_y 16 rfl (y_nil rfl) rfl rfl rfl rfl (by kernel_rfl) ?_
      refine pl_y 17 rfl (y_fa fa102_1 rfl) rfl rfl rfl rfl (by kernel_rfl) ?_
      refine pl_y 18 rfl (y_fa fa41_4 rfl) rfl rfl rfl rfl (by kernel_rfl) ?_
      refine pl_w1 19 (by kernel_rfl) rfl rfl (pl_fire rfl rfl rfl (by kernel_rfl) ?_)
      refine oj_store rfl rfl rfl rfl Try.sizeOf3 rfl ?_
      refine oj_nil ?_
      refine ej_pl (lt_w (by kernel_rfl) (lt_y (y_fa fa102_1 rfl) rfl (lt_y (y_nil rfl) rfl (lt_w (by kernel_rfl) (lt_w (by kernel_rfl) (lt_w (by kernel_rfl) (lt_w (by kernel_rfl) (lt_w (by kernel_rfl) (lt_w (by kernel_rfl) (lt_w (by kernel_rfl) (lt_w (by kernel_rfl) (lt_w (by kernel_rfl) (lt_w (by kernel_rfl) (lt_w (by kernel_rfl) (lt_w (by kernel_rfl) (lt_w (by kernel_rfl) (lt_w (by kernel_rfl) (lt_w (by kernel_rfl) (lt_w (by kernel_rfl) (lt_nil)))))))))))))))))))) ?_
      refine pl_end (by kernel_rfl) ?_
      have hE : stepP (rgL lad st) st x o = ⟨x.who, x.limit, x.way, x.second, priceF (rgL lad st) st x.limit x.second⟩ := by
        unfold stepP; rw [if_pos (by simpa using h22b), if_neg (show ¬ beats o ⟨x.who, x.way, x.limit⟩ = true by rw [show beats o ⟨x.who, x.way, x.limit⟩ = false from h45b]; simp)]
      exact ej_end0 rfl Try.results62 (fun w' hp => ⟨rfl, hp.mut, by rw [hE]; exact hp.own1⟩)
  · have h22b := h22
    try simp only [sxb] at h22
    refine cj_skip (ej_th (cj_seq (cj_seq ?_)))
    refine cj_regionG (gj_step (y_move rfl) rfl rfl rfl (gj_step (y_nil rfl) rfl rfl rfl (gj_step (y_fa fa102_1 rfl) rfl rfl rfl (gj_step (y_fa0 fa41_0 rfl) rfl rfl rfl (gj_step (y_load1 Try.isAgg3 rfl rfl) rfl rfl rfl (gj_step (y_eql rfl rfl) rfl rfl rfl (gj_step (y_assign rfl) rfl rfl rfl (gj_nil ?_))))))))
    refine ej_th ?_
    refine cj_cond rfl (fun h32 => ?_) (fun h32 => ?_)
    · have h32b := h32
      try simp only [sxb] at h32
      refine cj_exit (ej_then_exit (ej_then_exit (ej_blk_pass rfl (ej_then_exit (ej_blk_hit (ej_blk (ej_th (cj_seq ?_))))))))
      refine cj_plan 19 (by kernel_rfl) (by kernel_rfl) ?_
      refine pl_y 0 rfl (y_move rfl) rfl rfl rfl rfl (by kernel_rfl) ?_
      refine pl_y 1 rfl (y_fa0 fa93_0 rfl) rfl rfl rfl rfl (by kernel_rfl) ?_
      refine pl_y 2 rfl (y_fa0 fa53_0 rfl) rfl rfl rfl rfl (by kernel_rfl) ?_
      refine pl_y 3 rfl (y_load1 Try.isAgg3 rfl rfl) rfl rfl rfl rfl (by kernel_rfl) ?_
      refine pl_y 4 rfl (y_fa0 fa93_0 rfl) rfl rfl rfl rfl (by kernel_rfl) ?_
      refine pl_y 5 rfl (y_fa fa53_2 rfl) rfl rfl rfl rfl (by kernel_rfl) ?_
      refine pl_y 6 rfl (y_load1 Try.isAgg3 rfl rfl) rfl rfl rfl rfl (by kernel_rfl) ?_
      refine pl_y 7 rfl (y_fa0 fa93_0 rfl) rfl rfl rfl rfl (by kernel_rfl) ?_
      refine pl_y 8 rfl (y_fa fa53_1 rfl) rfl rfl rfl rfl (by kernel_rfl) ?_
      refine pl_y 9 rfl (y_load1 Try.isAgg3 rfl rfl) rfl rfl rfl rfl (by kernel_rfl) ?_
      refine pl_y 10 rfl (y_move rfl) rfl rfl rfl rfl (by kernel_rfl) ?_
      refine pl_y 11 rfl (y_nil rfl) rfl rfl rfl rfl (by kernel_rfl) ?_
      refine pl_y 12 rfl (y_fa fa102_1 rfl) rfl rfl rfl rfl (by kernel_rfl) ?_
      refine pl_y 13 rfl (y_fa fa41_1 rfl) rfl rfl rfl rfl (by kernel_rfl) ?_
      refine pl_y 14 rfl (y_load1 Try.isAgg3 rfl rfl) rfl rfl rfl rfl (by kernel_rfl) ?_
      refine pl_y 15 rfl (y_build (cs := [.int .i64 o.who, .int .i64 o.most, .int .i64 o.way, .int .i64 x.limit, .int .i64 0]) st41 rfl (by kernel_rfl)) rfl rfl rfl rfl (by kernel_rfl) ?_
      refine pl_y 16 rfl (y_nil rfl) rfl rfl rfl rfl (by kernel_rfl) ?_
      refine pl_y 17 rfl (y_fa fa102_1 rfl) rfl rfl rfl rfl (by kernel_rfl) ?_
      refine pl_w1 18 (by kernel_rfl) rfl rfl (pl_fire rfl rfl rfl (by kernel_rfl) ?_)
      refine oj_store rfl rfl rfl rfl Try.sizeOf41 rfl ?_
      refine oj_nil ?_
      refine ej_pl (lt_w (by kernel_rfl) (lt_y (y_nil rfl) rfl (lt_w (by kernel_rfl) (lt_w (by kernel_rfl) (lt_w (by kernel_rfl) (lt_w (by kernel_rfl) (lt_w (by kernel_rfl) (lt_w (by kernel_rfl) (lt_w (by kernel_rfl) (lt_w (by kernel_rfl) (lt_w (by kernel_rfl) (lt_w (by kernel_rfl) (lt_w (by kernel_rfl) (lt_w (by kernel_rfl) (lt_w (by kernel_rfl) (lt_w (by kernel_rfl) (lt_w (by kernel_rfl) (lt_w (by kernel_rfl) (lt_nil))))))))))))))))))) ?_
      refine pl_end (by kernel_rfl) ?_
      refine ej_th (cj_exit (ej_blk_pass rfl (ej_then_exit (ej_blk_hit (ej_th ?_)))))
      refine cj_plan 20 (by kernel_rfl) (by kernel_rfl) ?_
      refine pl_y 0 rfl (y_move rfl) rfl rfl rfl rfl (by kernel_rfl) ?_
      refine pl_y 1 rfl (y_move rfl) rfl rfl rfl rfl (by kernel_rfl) ?_
      refine pl_y 2 rfl (y_nil rfl) rfl rfl rfl rfl (by kernel_rfl) ?_
      refine pl_y 3 rfl (y_fa0 fa102_0 rfl) rfl rfl rfl rfl (by kernel_rfl) ?_
      refine pl_y 4 rfl (y_loadN Try.isAgg85 Try.sizeOf85 rfl) rfl rfl rfl rfl (by kernel_rfl) ?_
      refine pl_y 5 rfl (y_move rfl) rfl rfl rfl rfl (by kernel_rfl) ?_
      refine pl_y 6 rfl (y_nil rfl) rfl rfl rfl rfl (by kernel_rfl) ?_
      refine pl_y 7 rfl (y_fa fa102_1 rfl) rfl rfl rfl rfl (by kernel_rfl) ?_
      refine pl_y 8 rfl (y_fa fa41_1 rfl) rfl rfl rfl rfl (by kernel_rfl) ?_
      refine pl_y 9 rfl (y_load1 Try.isAgg3 rfl rfl) rfl rfl rfl rfl (by kernel_rfl) ?_
      refine pl_y 10 rfl (y_move rfl) rfl rfl rfl rfl (by kernel_rfl) ?_
      refine pl_y 11 rfl (y_nil rfl) rfl rfl rfl rfl (by kernel_rfl) ?_
      refine pl_y 12 rfl (y_fa fa102_1 rfl) rfl rfl rfl rfl (by kernel_rfl) ?_
      refine pl_y 13 rfl (y_fa fa41_3 rfl) rfl rfl rfl rfl (by kernel_rfl) ?_
      refine pl_y 14 rfl (y_load1 Try.isAgg3 rfl rfl) rfl rfl rfl rfl (by kernel_rfl) ?_
      refine pl_y 15 rfl (y_call Try.call56 rfl (fun w hp => k_price st rv lad Al cl _ _ w hp.rd hok)) rfl rfl rfl rfl (by kernel_rfl) ?_
      refine pl_y 16 rfl (y_nil rfl) rfl rfl rfl rfl (by kernel_rfl) ?_
      refine pl_y 17 rfl (y_fa fa102_1 rfl) rfl rfl rfl rfl (by kernel_rfl) ?_
      refine pl_y 18 rfl (y_fa fa41_4 rfl) rfl rfl rfl rfl (by kernel_rfl) ?_
      refine pl_w1 19 (by kernel_rfl) rfl rfl (pl_fire rfl rfl rfl (by kernel_rfl) ?_)
      refine oj_store rfl rfl rfl rfl Try.sizeOf3 rfl ?_
      refine oj_nil ?_
      refine ej_pl (lt_w (by kernel_rfl) (lt_y (y_fa fa102_1 rfl) rfl (lt_y (y_nil rfl) rfl (lt_w (by kernel_rfl) (lt_w (by kernel_rfl) (lt_w (by kernel_rfl) (lt_w (by kernel_rfl) (lt_w (by kernel_rfl) (lt_w (by kernel_rfl) (lt_w (by kernel_rfl) (lt_w (by kernel_rfl) (lt_w (by kernel_rfl) (lt_w (by kernel_rfl) (lt_w (by kernel_rfl) (lt_w (by kernel_rfl) (lt_w (by kernel_rfl) (lt_w (by kernel_rfl) (lt_w (by kernel_rfl) (lt_w (by kernel_rfl) (lt_nil)))))))))))))))))))) ?_
      refine pl_end (by kernel_rfl) ?_
      have hE : stepP (rgL lad st) st x o = ⟨o.who, o.most, o.way, x.limit, priceF (rgL lad st) st o.most x.limit⟩ := by
        unfold stepP; rw [if_neg (by simpa using h22b), if_pos (.inl (by simpa using h32b))]
      exact ej_end0 rfl Try.results62 (fun w' hp => ⟨rfl, hp.mut, by rw [hE]; exact hp.own1⟩)
    · have h32b := h32
      try simp only [sxb] at h32
      refine cj_skip (ej_th (cj_seq ?_))
      refine cj_regionG ?_
      refine gj_step (y_loadN Try.isAgg93 Try.sizeOf93 rfl) rfl rfl rfl (gj_step (y_loadN Try.isAgg93 Try.sizeOf93 rfl) rfl rfl rfl (?_))
      refine gj_step (y_call Try.call93 rfl (fun w hp => k_beats o ⟨x.who, x.way, x.limit⟩ w)) rfl rfl rfl ?_
      refine gj_step (y_assign rfl) rfl rfl rfl (?_)
      refine gj_nil ?_
      refine ej_th ?_
      refine cj_cond rfl (fun h39 => ?_) (fun h39 => ?_)
      · have h39b := h39
        try simp only [sxb] at h39
        refine cj_exit (ej_then_exit (ej_blk_pass rfl (ej_then_exit (ej_blk_pass rfl (ej_blk_hit (ej_th (cj_seq ?_)))))))
        refine cj_plan 19 (by kernel_rfl) (by kernel_rfl) ?_
        refine pl_y 0 rfl (y_move rfl) rfl rfl rfl rfl (by kernel_rfl) ?_
        refine pl_y 1 rfl (y_fa0 fa93_0 rfl) rfl rfl rfl rfl (by kernel_rfl) ?_
        refine pl_y 2 rfl (y_fa0 fa53_0 rfl) rfl rfl rfl rfl (by kernel_rfl) ?_
        refine pl_y 3 rfl (y_load1 Try.isAgg3 rfl rfl) rfl rfl rfl rfl (by kernel_rfl) ?_
        refine pl_y 4 rfl (y_fa0 fa93_0 rfl) rfl rfl rfl rfl (by kernel_rfl) ?_
        refine pl_y 5 rfl (y_fa fa53_2 rfl) rfl rfl rfl rfl (by kernel_rfl) ?_
        refine pl_y 6 rfl (y_load1 Try.isAgg3 rfl rfl) rfl rfl rfl rfl (by kernel_rfl) ?_
        refine pl_y 7 rfl (y_fa0 fa93_0 rfl) rfl rfl rfl rfl (by kernel_rfl) ?_
        refine pl_y 8 rfl (y_fa fa53_1 rfl) rfl rfl rfl rfl (by kernel_rfl) ?_
        refine pl_y 9 rfl (y_load1 Try.isAgg3 rfl rfl) rfl rfl rfl rfl (by kernel_rfl) ?_
        refine pl_y 10 rfl (y_move rfl) rfl rfl rfl rfl (by kernel_rfl) ?_
        refine pl_y 11 rfl (y_nil rfl) rfl rfl rfl rfl (by kernel_rfl) ?_
        refine pl_y 12 rfl (y_fa fa102_1 rfl) rfl rfl rfl rfl (by kernel_rfl) ?_
        refine pl_y 13 rfl (y_fa fa41_1 rfl) rfl rfl rfl rfl (by kernel_rfl) ?_
        refine pl_y 14 rfl (y_load1 Try.isAgg3 rfl rfl) rfl rfl rfl rfl (by kernel_rfl) ?_
        refine pl_y 15 rfl (y_build (cs := [.int .i64 o.who, .int .i64 o.most, .int .i64 o.way, .int .i64 x.limit, .int .i64 0]) st41 rfl (by kernel_rfl)) rfl rfl rfl rfl (by kernel_rfl) ?_
        refine pl_y 16 rfl (y_nil rfl) rfl rfl rfl rfl (by kernel_rfl) ?_
        refine pl_y 17 rfl (y_fa fa102_1 rfl) rfl rfl rfl rfl (by kernel_rfl) ?_
        refine pl_w1 18 (by kernel_rfl) rfl rfl (pl_fire rfl rfl rfl (by kernel_rfl) ?_)
        refine oj_store rfl rfl rfl rfl Try.sizeOf41 rfl ?_
        refine oj_nil ?_
        refine ej_pl (lt_w (by kernel_rfl) (lt_y (y_nil rfl) rfl (lt_w (by kernel_rfl) (lt_w (by kernel_rfl) (lt_w (by kernel_rfl) (lt_w (by kernel_rfl) (lt_w (by kernel_rfl) (lt_w (by kernel_rfl) (lt_w (by kernel_rfl) (lt_w (by kernel_rfl) (lt_w (by kernel_rfl) (lt_w (by kernel_rfl) (lt_w (by kernel_rfl) (lt_w (by kernel_rfl) (lt_w (by kernel_rfl) (lt_w (by kernel_rfl) (lt_w (by kernel_rfl) (lt_w (by kernel_rfl) (lt_nil))))))))))))))))))) ?_
        refine pl_end (by kernel_rfl) ?_
        refine ej_th (cj_exit (ej_blk_pass rfl (ej_then_exit (ej_blk_hit (ej_th ?_)))))
        refine cj_plan 20 (by kernel_rfl) (by kernel_rfl) ?_
        refine pl_y 0 rfl (y_move rfl) rfl rfl rfl rfl (by kernel_rfl) ?_
        refine pl_y 1 rfl (y_move rfl) rfl rfl rfl rfl (by kernel_rfl) ?_
        refine pl_y 2 rfl (y_nil rfl) rfl rfl rfl rfl (by kernel_rfl) ?_
        refine pl_y 3 rfl (y_fa0 fa102_0 rfl) rfl rfl rfl rfl (by kernel_rfl) ?_
        refine pl_y 4 rfl (y_loadN Try.isAgg85 Try.sizeOf85 rfl) rfl rfl rfl rfl (by kernel_rfl) ?_
        refine pl_y 5 rfl (y_move rfl) rfl rfl rfl rfl (by kernel_rfl) ?_
        refine pl_y 6 rfl (y_nil rfl) rfl rfl rfl rfl (by kernel_rfl) ?_
        refine pl_y 7 rfl (y_fa fa102_1 rfl) rfl rfl rfl rfl (by kernel_rfl) ?_
        refine pl_y 8 rfl (y_fa fa41_1 rfl) rfl rfl rfl rfl (by kernel_rfl) ?_
        refine pl_y 9 rfl (y_load1 Try.isAgg3 rfl rfl) rfl rfl rfl rfl (by kernel_rfl) ?_
        refine pl_y 10 rfl (y_move rfl) rfl rfl rfl rfl (by kernel_rfl) ?_
        refine pl_y 11 rfl (y_nil rfl) rfl rfl rfl rfl (by kernel_rfl) ?_
        refine pl_y 12 rfl (y_fa fa102_1 rfl) rfl rfl rfl rfl (by kernel_rfl) ?_
        refine pl_y 13 rfl (y_fa fa41_3 rfl) rfl rfl rfl rfl (by kernel_rfl) ?_
        refine pl_y 14 rfl (y_load1 Try.isAgg3 rfl rfl) rfl rfl rfl rfl (by kernel_rfl) ?_
        refine pl_y 15 rfl (y_call Try.call56 rfl (fun w hp => k_price st rv lad Al cl _ _ w hp.rd hok)) rfl rfl rfl rfl (by kernel_rfl) ?_
        refine pl_y 16 rfl (y_nil rfl) rfl rfl rfl rfl (by kernel_rfl) ?_
        refine pl_y 17 rfl (y_fa fa102_1 rfl) rfl rfl rfl rfl (by kernel_rfl) ?_
        refine pl_y 18 rfl (y_fa fa41_4 rfl) rfl rfl rfl rfl (by kernel_rfl) ?_
        refine pl_w1 19 (by kernel_rfl) rfl rfl (pl_fire rfl rfl rfl (by kernel_rfl) ?_)
        refine oj_store rfl rfl rfl rfl Try.sizeOf3 rfl ?_
        refine oj_nil ?_
        refine ej_pl (lt_w (by kernel_rfl) (lt_y (y_fa fa102_1 rfl) rfl (lt_y (y_nil rfl) rfl (lt_w (by kernel_rfl) (lt_w (by kernel_rfl) (lt_w (by kernel_rfl) (lt_w (by kernel_rfl) (lt_w (by kernel_rfl) (lt_w (by kernel_rfl) (lt_w (by kernel_rfl) (lt_w (by kernel_rfl) (lt_w (by kernel_rfl) (lt_w (by kernel_rfl) (lt_w (by kernel_rfl) (lt_w (by kernel_rfl) (lt_w (by kernel_rfl) (lt_w (by kernel_rfl) (lt_w (by kernel_rfl) (lt_w (by kernel_rfl) (lt_nil)))))))))))))))))))) ?_
        refine pl_end (by kernel_rfl) ?_
        have hE : stepP (rgL lad st) st x o = ⟨o.who, o.most, o.way, x.limit, priceF (rgL lad st) st o.most x.limit⟩ := by
          unfold stepP; rw [if_neg (by simpa using h22b), if_pos (.inr (show beats o ⟨x.who, x.way, x.limit⟩ = true from h39b))]
        exact ej_end0 rfl Try.results62 (fun w' hp => ⟨rfl, hp.mut, by rw [hE]; exact hp.own1⟩)
      · have h39b := h39
        try simp only [sxb] at h39
        refine cj_skip (ej_th (cj_exit (ej_blk_pass rfl (ej_then_exit (ej_blk_pass rfl (ej_blk_pass rfl (ej_then_exit (ej_blk_hit (ej_th (cj_seq ?_))))))))))
        refine cj_plan 14 (by kernel_rfl) (by kernel_rfl) ?_
        refine pl_y 0 rfl (y_move rfl) rfl rfl rfl rfl (by kernel_rfl) ?_
        refine pl_y 1 rfl (y_move rfl) rfl rfl rfl rfl (by kernel_rfl) ?_
        refine pl_y 2 rfl (y_nil rfl) rfl rfl rfl rfl (by kernel_rfl) ?_
        refine pl_y 3 rfl (y_fa fa102_1 rfl) rfl rfl rfl rfl (by kernel_rfl) ?_
        refine pl_y 4 rfl (y_fa fa41_3 rfl) rfl rfl rfl rfl (by kernel_rfl) ?_
        refine pl_y 5 rfl (y_load1 Try.isAgg3 rfl rfl) rfl rfl rfl rfl (by kernel_rfl) ?_
        refine pl_y 6 rfl (y_fa0 fa93_0 rfl) rfl rfl rfl rfl (by kernel_rfl) ?_
        refine pl_y 7 rfl (y_fa fa53_2 rfl) rfl rfl rfl rfl (by kernel_rfl) ?_
        refine pl_y 8 rfl (y_load1 Try.isAgg3 rfl rfl) rfl rfl rfl rfl (by kernel_rfl) ?_
        refine pl_y 9 rfl (y_call Try.call55 rfl (fun w hp => k_largest _ _ w)) rfl rfl rfl rfl (by kernel_rfl) ?_
        refine pl_y 10 rfl (y_nil rfl) rfl rfl rfl rfl (by kernel_rfl) ?_
        refine pl_y 11 rfl (y_fa fa102_1 rfl) rfl rfl rfl rfl (by kernel_rfl) ?_
        refine pl_y 12 rfl (y_fa fa41_3 rfl) rfl rfl rfl rfl (by kernel_rfl) ?_
        refine pl_w1 13 (by kernel_rfl) rfl rfl (pl_fire rfl rfl rfl (by kernel_rfl) ?_)
        refine oj_store rfl rfl rfl rfl Try.sizeOf3 rfl ?_
        refine oj_nil ?_
        refine ej_pl (lt_w (by kernel_rfl) (lt_y (y_fa fa102_1 rfl) rfl (lt_y (y_nil rfl) rfl (lt_w (by kernel_rfl) (lt_w (by kernel_rfl) (lt_w (by kernel_rfl) (lt_w (by kernel_rfl) (lt_w (by kernel_rfl) (lt_w (by kernel_rfl) (lt_w (by kernel_rfl) (lt_w (by kernel_rfl) (lt_w (by kernel_rfl) (lt_w (by kernel_rfl) (lt_nil)))))))))))))) ?_
        refine pl_end (by kernel_rfl) ?_
        refine ej_th (cj_exit (ej_blk_hit (ej_th ?_)))
        refine cj_plan 20 (by kernel_rfl) (by kernel_rfl) ?_
        refine pl_y 0 rfl (y_move rfl) rfl rfl rfl rfl (by kernel_rfl) ?_
        refine pl_y 1 rfl (y_move rfl) rfl rfl rfl rfl (by kernel_rfl) ?_
        refine pl_y 2 rfl (y_nil rfl) rfl rfl rfl rfl (by kernel_rfl) ?_
        refine pl_y 3 rfl (y_fa0 fa102_0 rfl) rfl rfl rfl rfl (by kernel_rfl) ?_
        refine pl_y 4 rfl (y_loadN Try.isAgg85 Try.sizeOf85 rfl) rfl rfl rfl rfl (by kernel_rfl) ?_
        refine pl_y 5 rfl (y_move rfl) rfl rfl rfl rfl (by kernel_rfl) ?_
        refine pl_y 6 rfl (y_nil rfl) rfl rfl rfl rfl (by kernel_rfl) ?_
        refine pl_y 7 rfl (y_fa fa102_1 rfl) rfl rfl rfl rfl (by kernel_rfl) ?_
        refine pl_y 8 rfl (y_fa fa41_1 rfl) rfl rfl rfl rfl (by kernel_rfl) ?_
        refine pl_y 9 rfl (y_load1 Try.isAgg3 rfl rfl) rfl rfl rfl rfl (by kernel_rfl) ?_
        refine pl_y 10 rfl (y_move rfl) rfl rfl rfl rfl (by kernel_rfl) ?_
        refine pl_y 11 rfl (y_nil rfl) rfl rfl rfl rfl (by kernel_rfl) ?_
        refine pl_y 12 rfl (y_fa fa102_1 rfl) rfl rfl rfl rfl (by kernel_rfl) ?_
        refine pl_y 13 rfl (y_fa fa41_3 rfl) rfl rfl rfl rfl (by kernel_rfl) ?_
        refine pl_y 14 rfl (y_load1 Try.isAgg3 rfl rfl) rfl rfl rfl rfl (by kernel_rfl) ?_
        refine pl_y 15 rfl (y_call Try.call56 rfl (fun w hp => k_price st rv lad Al cl _ _ w hp.rd hok)) rfl rfl rfl rfl (by kernel_rfl) ?_
        refine pl_y 16 rfl (y_nil rfl) rfl rfl rfl rfl (by kernel_rfl) ?_
        refine pl_y 17 rfl (y_fa fa102_1 rfl) rfl rfl rfl rfl (by kernel_rfl) ?_
        refine pl_y 18 rfl (y_fa fa41_4 rfl) rfl rfl rfl rfl (by kernel_rfl) ?_
        refine pl_w1 19 (by kernel_rfl) rfl rfl (pl_fire rfl rfl rfl (by kernel_rfl) ?_)
        refine oj_store rfl rfl rfl rfl Try.sizeOf3 rfl ?_
        refine oj_nil ?_
        refine ej_pl (lt_w (by kernel_rfl) (lt_y (y_fa fa102_1 rfl) rfl (lt_y (y_nil rfl) rfl (lt_w (by kernel_rfl) (lt_w (by kernel_rfl) (lt_w (by kernel_rfl) (lt_w (by kernel_rfl) (lt_w (by kernel_rfl) (lt_w (by kernel_rfl) (lt_w (by kernel_rfl) (lt_w (by kernel_rfl) (lt_w (by kernel_rfl) (lt_w (by kernel_rfl) (lt_w (by kernel_rfl) (lt_w (by kernel_rfl) (lt_w (by kernel_rfl) (lt_w (by kernel_rfl) (lt_w (by kernel_rfl) (lt_w (by kernel_rfl) (lt_nil)))))))))))))))))))) ?_
        refine pl_end (by kernel_rfl) ?_
        have hE : stepP (rgL lad st) st x o = ⟨x.who, x.limit, x.way, max x.second o.most, priceF (rgL lad st) st x.limit (max x.second o.most)⟩ := by
          unfold stepP; rw [if_neg (by simpa using h22b), if_neg (by rintro (h | h); exact absurd h (by simpa using h32b); exact (show ¬ beats o ⟨x.who, x.way, x.limit⟩ = true by rw [show beats o ⟨x.who, x.way, x.limit⟩ = false from h39b]; simp) h)]
        exact ej_end0 rfl Try.results62 (fun w' hp => ⟨rfl, hp.mut, by rw [hE]; exact hp.own1⟩)

end Go.Proofs.Ytehmifpofpifkaa
