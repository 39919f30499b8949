/- Texts of ours, joined: 8 of them. Conditions: none. -/
import Derived.Test.YtomidcehahdmbaaZd
import Derived.Shelf.SlSortCmp.NoneTotal
import Derived.Lib.OwnBridge
import Derived.Lib.SortBridge
import Derived.Lib.SlKeysI
import Derived.Test.YtomidcehahdmbaaProg
import Derived.WalkKit
namespace Go.Sx
open Go.RowKit Go.Sort Go.Shelf Go.Proofs

/-- Ints within bounds. -/
abbrev BInt (lo hi : Int) := { n : Int // lo ≤ n ∧ n ≤ hi }
abbrev encBI {lo hi : Int} (x : BInt lo hi) : Value := .int .i64 x.1


def sortI (xs : List Int) : List Int := xs.mergeSort (fun x y => decide (x ≤ y))
theorem sortI_len (xs : List Int) : (sortI xs).length = xs.length := List.length_mergeSort ..

theorem sortI_pairwise (xs : List Int) : (sortI xs).Pairwise (· ≤ ·) := by
  have := List.pairwise_mergeSort (le := fun x y : Int => decide (x ≤ y)) (fun a b c h1 h2 => by simp only [decide_eq_true_eq] at *; omega) (fun a b => by simp only [Bool.or_eq_true, decide_eq_true_eq]; omega) xs
  exact this.imp (fun h => of_decide_eq_true h)
theorem sortI_perm (xs : List Int) : (sortI xs).Perm xs := List.mergeSort_perm ..
theorem sorted_unique {l l' : List Int} (h : l.Pairwise (· ≤ ·)) (h' : l'.Pairwise (· ≤ ·)) (hp : l.Perm l') : l = l' :=
  List.Perm.eq_of_pairwise (fun _ _ _ _ h1 h2 => Int.le_antisymm h1 h2) h h' hp

def cfB {lo hi : Int} (x y : BInt lo hi) : Int := x.1 - y.1
theorem ltB {lo hi : Int} (x y : BInt lo hi) : ltOf cfB x y = decide (x.1 < y.1) := by
  unfold ltOf cfB
  by_cases h : x.1 < y.1
  · rw [decide_eq_true h, decide_eq_true (by omega)]
  · rw [decide_eq_false h, decide_eq_false (by omega)]
theorem swoB {lo hi : Int} : SWO (ltOf (cfB (lo := lo) (hi := hi))) where
  irrefl x := by rw [ltB]; simp
  trans x y z h1 h2 := by rw [ltB] at *; simp at *; omega
  ntrans x y z h1 h2 := by rw [ltB] at *; simp at *; omega
theorem totB {lo hi : Int} (x y : BInt lo hi) (h1 : ltOf cfB x y = false) (h2 : ltOf cfB y x = false) : x = y := by
  rw [ltB] at *; simp at *; exact Subtype.ext (by omega)

theorem flatMap_enInt (xs : List Int) : xs.flatMap enInt = xs.map (Value.int .i64) := by
  induction xs with
  | nil => rfl
  | cons x xs ih => rw [List.flatMap_cons, ih]; rfl

/-- slices.SortFunc of ints by their difference. -/
theorem calls_sortI {P : Program} {ρ : Ren} (L : SlLaysF.n6 P ρ) (g : Nat) (lo hi : Int) (eg : ∀ args w, (callFunc g args).run P w = .ok (.enter g args) w)
    (hcmp : ∀ (x y : BInt lo hi) (W : World), Calls P g #[.int .i64 x.1, .int .i64 y.1] W (fun e w' => e = .returned (.int .i64 (x.1 - y.1)) ∧ ∃ q, w' = W.drewN q))
    (e c : Nat) (A : Option Addr) (xs : List Int) (w : World) (hx : ∀ x ∈ xs, lo ≤ x ∧ x ≤ hi) (hl : xs.length < 4611686018427387904) (ho : (ow e 1 enInt A c xs).P w) :
    Calls P (ρ.f 6) #[.slice A xs.length c, .func (.func g) #[] #[]] w (fun en w' => en = .returned (.tuple #[]) ∧ Mut (ow e 1 enInt A c xs) w w' ∧ (ow e 1 enInt A c (sortI xs)).P w') := by
  obtain ⟨d, hd⟩ : ∃ d : List (BInt lo hi), d.map (·.1) = xs := ⟨xs.pmap (fun x h => ⟨x, h⟩) hx, by simp [List.map_pmap]⟩
  subst hd
  by_cases hd0 : d = []
  · subst hd0
    have hS := AnyF.slices_SortFunc_none (P := P) (ρ := ρ) { L with } A c (.func (.func g) #[] #[]) w
    refine hS.mono fun en w' hh => ?_
    obtain ⟨he, hw⟩ := hh
    rw [hw]
    have e0 : sortI (([] : List (BInt lo hi)).map (·.1)) = [] := by simp [sortI]
    rw [e0]
    exact ⟨he, ⟨rfl, rfl, rfl, Nat.le_refl _, fun _ _ _ => rfl⟩, ho⟩
  · letI : Inhabited (BInt lo hi) := ⟨d.head hd0⟩
    have hlen : (d.map (·.1)).length = d.length := List.length_map ..
    have h1 : w.ownsRow 0 e 1 (.slice A d.length c) d.length (d.map encBI) := by
      have : w.ownsRow 0 e 1 (.slice A (d.map (·.1)).length c) (d.map (·.1)).length ((d.map (·.1)).flatMap enInt) := ho
      rw [flatMap_enInt, List.map_map, hlen] at this
      exact this
    obtain ⟨b, cap, hv, _, hb, hn, hm, _, hH⟩ := Lib.holds_of_ownsRow h1 (by intro h; injection h with _ h2; exact hd0 (List.eq_nil_of_length_eq_zero h2))
    injection hv with hA _ hc
    subst hA; subst hc
    have hS := Any.slices_SortFunc_total L (encBI (lo := lo) (hi := hi)) (fun _ => rfl) cfB swoB g #[] b 0 c d.toArray w eg (CmpReads.lays (fun _ _ _ _ x y => hcmp x y _)) hH hb (by simpa using hl) totB
    rw [show d.toArray.size = (d.map (·.1)).length by simp] at hS
    refine hS.mono fun en w' hh => ?_
    obtain ⟨he, q, os, hw⟩ := hh
    refine ⟨he, ?_⟩
    obtain ⟨ys, hys⟩ : ∃ ys, ys = d.mergeSort fun x y => !(ltOf cfB) y x := ⟨_, rfl⟩
    have hyl : ys.length = d.length := by rw [hys]; exact List.length_mergeSort ..
    have hsort : sortI (d.map (·.1)) = ys.map (·.1) := by
      rw [hys]
      refine (List.map_mergeSort (fun x _ y _ => ?_)).symm
      rw [ltB]
      by_cases h : x.1 ≤ y.1
      · rw [decide_eq_true h, decide_eq_false (by omega)]; rfl
      · rw [decide_eq_false h, decide_eq_true (by omega)]; rfl
    have hw2 : w' = grow (putRow encBI (Sort.ahead w q) b 0 ys.toArray) os := by rw [hw, hys]; rfl
    have hrow := Lib.ownsRow_putRow (q := q) h1 hyl (Nat.le_refl _)
    have hsz : (putRow (encBI (lo := lo) (hi := hi)) (Sort.ahead w q) b 0 ys.toArray).heap.size = w.heap.size := by simp [putRow, mapBlock, Sort.ahead]
    constructor
    · rw [hw2]
      refine ⟨rfl, rfl, rfl, by simp, fun k hk hne => ?_⟩
      rw [heap_grow_old _ _ (by rw [hsz]; exact hk)]
      have hbk : b ≠ k := fun h => hne (by rw [← h]; rfl)
      simp [putRow, mapBlock, Sort.ahead, Array.getElem?_modify, hbk]
    · rw [hsort, hw2]
      have h2 : (putRow (encBI (lo := lo) (hi := hi)) (Sort.ahead w q) b 0 ys.toArray).ownsRow 0 e 1 (.slice (some ⟨b, 0, none⟩) (ys.map (·.1)).length c) (ys.map (·.1)).length ((ys.map (·.1)).flatMap enInt) := by
        rw [flatMap_enInt, List.map_map, List.length_map, hyl]
        have h3 : ys.take d.length = ys := List.take_of_length_le (by omega)
        rw [h3] at hrow
        exact hrow
      refine (ow e 1 enInt (some ⟨b, 0, none⟩) c (ys.map (fun x : BInt lo hi => x.1))).stab (w := putRow encBI (Sort.ahead w q) b 0 ys.toArray) (fun k hk => ?_) h2
      have hbk : b = k := by
        have : (Value.slice (some ⟨b, 0, none⟩) (ys.map (·.1)).length c).ownBlock = some k := hk
        injection this
      rw [heap_grow_old _ _ (by rw [hsz]; omega)]
end Go.Sx
namespace Go.Proofs.Ytomidcehahdmbaa
open Go.Sx Go.RowKit Vm Go.Sort Go.Shelf
set_option maxRecDepth 20000
def oc1 (x : Int) : Int := IntKind.u64.wrap (bits .and .u64 (x / 2) 6148914691236517205 + bits .and .u64 x 6148914691236517205)
def oc2 (x : Int) : Int := IntKind.u64.wrap (bits .and .u64 (x / 4) 3689348814741910323 + bits .and .u64 x 3689348814741910323)
def oc3 (x : Int) : Int := bits .and .u64 (IntKind.u64.wrap (x / 16 + x)) 1085102592571150095
def oc4 (x : Int) : Int := IntKind.u64.wrap (x + x / 256)
def oc5 (x : Int) : Int := IntKind.u64.wrap (x + x / 65536)
def oc6 (x : Int) : Int := IntKind.u64.wrap (x + x / 4294967296)
def oc (x : Int) : Int := bits .and .i64 (wrap64 (oc6 (oc5 (oc4 (oc3 (oc2 (oc1 x))))))) 127
theorem oc_eq : ∀ n : Fin 256, oc (n.val : Int) = (popc n.val : Int) := by decide +kernel
set_option maxHeartbeats 1000000 in
theorem k_oc64 (x : Int) (w : World) : Calls Try.prog 94 #[.int .u64 x] w (fun e w' => e = .returned (.int .i64 (oc x)) ∧ w' = w) := by
  go_enter Try.func94, Try.ntmps94
  go_wp2
  go_ret
  refine ⟨?_, rfl⟩
  refine congrArg (fun v => Ending.returned (.int .i64 v)) (?_ : _ = oc x)
  generalize h1 : IntKind.u64.wrap (bits .and .u64 (x / 2) 6148914691236517205 + bits .and .u64 x 6148914691236517205) = x1
  generalize h2 : IntKind.u64.wrap (bits .and .u64 (x1 / 4) 3689348814741910323 + bits .and .u64 x1 3689348814741910323) = x2
  generalize h3 : bits .and .u64 (IntKind.u64.wrap (x2 / 16 + x2)) 1085102592571150095 = x3
  subst h3; subst h2; subst h1
  rfl
theorem k_oc (x : Int) (w : World) : Calls Try.prog 83 #[.int .u64 x] w (fun e w' => e = .returned (.int .i64 (oc x)) ∧ w' = w) := by
  go_enter Try.func83, Try.ntmps83
  go_wp2_with (go_at_call 94; refine (k_oc64 _ _).mono ?_; rintro e w' ⟨rfl, rfl⟩)
  go_ret
  exact ⟨rfl, rfl⟩
theorem k_ocN (n : Nat) (hn : n < 256) (w : World) : Calls Try.prog 83 #[.int .u64 n] w (fun e w' => e = .returned (.int .i64 (popc n)) ∧ w' = w) := by
  have h := k_oc (n : Int) w
  rw [show oc (n : Int) = (popc n : Int) from oc_eq ⟨n, hn⟩] at h
  exact h
theorem k_cmpG (x y : Nat) (hx : x < 256) (hy : y < 256) (w : World) : Calls Try.prog 82 #[.int .i64 x, .int .i64 y] w (fun e w' => e = .returned (.int .i64 (cmpG x y)) ∧ ∃ q, w' = w.drewN q) := by
  have ex : oc (x : Int) = (popc x : Int) := oc_eq ⟨x, hx⟩
  have ey : oc (y : Int) = (popc y : Int) := oc_eq ⟨y, hy⟩
  have px := popc_le x
  have py := popc_le y
  go_enter Try.func82, Try.ntmps82
  go_wp2_with (go_at_call 83; refine (k_oc _ _).mono ?_; rintro e w' ⟨rfl, rfl⟩)
  all_goals go_ret
  all_goals refine ⟨?_, 0, rfl⟩
  all_goals refine congrArg (fun v => Ending.returned (.int .i64 v)) (?_ : _ = cmpG x y)
  · rename_i h
    have h2 : (popc x : Int) - popc y ≠ 0 := by simpa using h
    unfold cmpG; rw [if_pos h2]
  · rename_i h
    have h2 : (popc x : Int) - popc y = 0 := by simpa using h
    unfold cmpG; rw [if_neg (by omega)]
/-- slices.SortFunc of small numbers by an order that parts any two. -/
theorem calls_sortG {P : Program} {ρ : Ren} (L : SlLaysF.n6 P ρ) (g : Nat) (eg : ∀ args w, (callFunc g args).run P w = .ok (.enter g args) w)
    (hcmp : ∀ (x y : Nat) (_ : x < 256) (_ : y < 256) (W : World), Calls P g #[.int .i64 x, .int .i64 y] W (fun e w' => e = .returned (.int .i64 (cmpG x y)) ∧ ∃ q, w' = W.drewN q))
    (e c : Nat) (A : Option Addr) (ns : List Nat) (w : World) (hx : ∀ x ∈ ns, x < 256) (hl : ns.length < 4611686018427387904) (ho : (ow e 1 enInt A c (ns.map fun n : Nat => (n : Int))).P w) :
    Calls P (ρ.f 6) #[.slice A ns.length c, .func (.func g) #[] #[]] w (fun en w' => en = .returned (.tuple #[]) ∧ Mut (ow e 1 enInt A c (ns.map fun n : Nat => (n : Int))) w w' ∧ (ow e 1 enInt A c ((ns.mergeSort fun x y => !befG y x).map fun n : Nat => (n : Int))).P w') := by
  obtain ⟨d, hd⟩ : ∃ d : List (Fin 256), d.map (·.val) = ns := ⟨ns.pmap (fun x h => ⟨x, h⟩) hx, by simp [List.map_pmap]⟩
  subst hd
  rw [List.map_map] at ho ⊢
  have hlen : (d.map (·.val)).length = d.length := List.length_map ..
  rw [hlen]
  have hlt : ∀ x y : Fin 256, ltOf (fun x y : Fin 256 => cmpG x.val y.val) x y = befG x.val y.val := fun x y => cmpG_lt x.val y.val
  have hO : SWO (ltOf (fun x y : Fin 256 => cmpG x.val y.val)) := ⟨fun x => by rw [hlt]; cases h : befG x.val x.val with
    | false => rfl
    | true => rw [befG_iff] at h; omega, fun x y z h1 h2 => by rw [hlt, befG_iff] at *; omega, fun x y z h1 h2 => by
      rw [hlt] at *
      cases h : befG x.val z.val with
      | false => rfl
      | true =>
        rw [befG_iff] at h
        have n1 : ¬ (popc x.val < popc y.val ∨ (popc x.val = popc y.val ∧ x.val < y.val)) := fun h => by rw [(befG_iff x.val y.val).2 h] at h1; cases h1
        have n2 : ¬ (popc y.val < popc z.val ∨ (popc y.val = popc z.val ∧ y.val < z.val)) := fun h => by rw [(befG_iff y.val z.val).2 h] at h2; cases h2
        omega⟩
  have hT : ∀ x y : Fin 256, ltOf (fun x y : Fin 256 => cmpG x.val y.val) x y = false → ltOf (fun x y : Fin 256 => cmpG x.val y.val) y x = false → x = y := fun x y h1 h2 => by
    rw [hlt] at *
    have n1 : ¬ (popc x.val < popc y.val ∨ (popc x.val = popc y.val ∧ x.val < y.val)) := fun h => by rw [(befG_iff x.val y.val).2 h] at h1; cases h1
    have n2 : ¬ (popc y.val < popc x.val ∨ (popc y.val = popc x.val ∧ y.val < x.val)) := fun h => by rw [(befG_iff y.val x.val).2 h] at h2; cases h2
    exact Fin.ext (by omega)
  by_cases hd0 : d = []
  · subst hd0
    have hS := AnyF.slices_SortFunc_none (P := P) (ρ := ρ) { L with } A c (.func (.func g) #[] #[]) w
    refine hS.mono fun en w' hh => ?_
    obtain ⟨he, hw⟩ := hh
    rw [hw]
    refine ⟨he, ⟨rfl, rfl, rfl, Nat.le_refl _, fun _ _ _ => rfl⟩, ?_⟩
    rw [List.map_nil, List.mergeSort_nil]
    exact ho
  · have h1 : w.ownsRow 0 e 1 (.slice A d.length c) d.length (d.map fun x => Value.int .i64 (x.val : Int)) := by
      have : w.ownsRow 0 e 1 (.slice A (d.map fun x : Fin 256 => (x.val : Int)).length c) (d.map fun x : Fin 256 => (x.val : Int)).length ((d.map fun x : Fin 256 => (x.val : Int)).flatMap enInt) := ho
      rw [flatMap_enInt, List.map_map, List.length_map] at this
      exact this
    obtain ⟨b, cap, hv, _, hb, hn, hm, _, hH⟩ := Lib.holds_of_ownsRow h1 (by intro h; injection h with _ h2; exact hd0 (List.eq_nil_of_length_eq_zero h2))
    injection hv with hA _ hc
    subst hA; subst hc
    have hS := Any.slices_SortFunc_total L (fun x : Fin 256 => Value.int .i64 (x.val : Int)) (fun _ => rfl) (fun x y : Fin 256 => cmpG x.val y.val) hO g #[] b 0 c d.toArray w eg (CmpReads.lays (fun _ _ _ _ x y => hcmp x.val y.val x.isLt y.isLt _)) hH hb (by simpa using hl) hT
    rw [show d.toArray.size = d.length by simp] at hS
    refine hS.mono fun en w' hh => ?_
    obtain ⟨he, q, os, hw⟩ := hh
    refine ⟨he, ?_⟩
    obtain ⟨ys, hys⟩ : ∃ ys, ys = d.mergeSort fun x y => !(ltOf (fun x y : Fin 256 => cmpG x.val y.val)) y x := ⟨_, rfl⟩
    have hyl : ys.length = d.length := by rw [hys]; exact List.length_mergeSort ..
    have hsort : (((d.map (·.val)).mergeSort fun x y => !befG y x).map fun n : Nat => (n : Int)) = ys.map (fun x : Fin 256 => (x.val : Int)) := by
      rw [hys, show (fun x : Fin 256 => (x.val : Int)) = (fun n : Nat => (n : Int)) ∘ (fun x : Fin 256 => x.val) from rfl, ← List.map_map]
      congr 1
      refine (List.map_mergeSort (fun x _ y _ => ?_)).symm
      rw [hlt]
    have hw2 : w' = grow (putRow (fun x : Fin 256 => Value.int .i64 (x.val : Int)) (Sort.ahead w q) b 0 ys.toArray) os := by rw [hw, hys]; rfl
    have hrow := Lib.ownsRow_putRow (q := q) h1 hyl (Nat.le_refl _)
    have hsz : (putRow (fun x : Fin 256 => Value.int .i64 (x.val : Int)) (Sort.ahead w q) b 0 ys.toArray).heap.size = w.heap.size := by simp [putRow, mapBlock, Sort.ahead]
    constructor
    · rw [hw2]
      refine ⟨rfl, rfl, rfl, by simp, fun k hk hne => ?_⟩
      rw [heap_grow_old _ _ (by rw [hsz]; exact hk)]
      have hbk : b ≠ k := fun h => hne (by rw [← h]; rfl)
      simp [putRow, mapBlock, Sort.ahead, Array.getElem?_modify, hbk]
    · rw [hsort, hw2]
      have h2 : (putRow (fun x : Fin 256 => Value.int .i64 (x.val : Int)) (Sort.ahead w q) b 0 ys.toArray).ownsRow 0 e 1 (.slice (some ⟨b, 0, none⟩) (ys.map (fun x : Fin 256 => (x.val : Int))).length c) (ys.map (fun x : Fin 256 => (x.val : Int))).length ((ys.map (fun x : Fin 256 => (x.val : Int))).flatMap enInt) := by
        rw [flatMap_enInt, List.map_map, List.length_map, hyl]
        have h3 : ys.take d.length = ys := List.take_of_length_le (by omega)
        rw [h3] at hrow
        exact hrow
      refine (ow e 1 enInt (some ⟨b, 0, none⟩) c (ys.map (fun x : Fin 256 => (x.val : Int)))).stab (w := putRow (fun x : Fin 256 => Value.int .i64 (x.val : Int)) (Sort.ahead w q) b 0 ys.toArray) (fun k hk => ?_) h2
      have hbk : b = k := by
        have : (Value.slice (some ⟨b, 0, none⟩) (ys.map (fun x : Fin 256 => (x.val : Int))).length c).ownBlock = some k := hk
        injection this
      rw [heap_grow_old _ _ (by rw [hsz]; omega)]
end Go.Proofs.Ytomidcehahdmbaa
namespace Go.Proofs.Ytomidcehahdmbaa
open Go.Sx Go.RowKit Vm
set_option maxRecDepth 20000
theorem k_inside1 (s : StrV) (n r bt br : Nat) (hr6 : s.rooms.length ≤ 6) (hr : r ≤ 4611686018427387904) : IterX Try.prog 109 #[.pointer (some ⟨bt, 0, none⟩), .pointer (some ⟨br, 0, none⟩)] (fun p : Nat => [.int .i64 (p : Nat)]) (insF r s.rooms.length 0) [ownB bt (cellsB 76 [.slice s.Ar s.rooms.length s.cr, .slice s.Ag s.gates.length s.cg, .slice s.As s.staff.length s.cs, .int .i64 (n : Nat)]), ownB br (cellsB 3 [.int .i64 (r : Nat)])] := by
  intro l J Jx w hgr hadd hdrop hfacts hgrx hdrx hfx hround hJ0
  refine enter_pure (args := [.func (.yield l) #[] #[], .pointer (some ⟨bt, 0, none⟩), .pointer (some ⟨br, 0, none⟩)]) [ownB bt (cellsB 76 [.slice s.Ar s.rooms.length s.cr, .slice s.Ag s.gates.length s.cg, .slice s.As s.staff.length s.cs, .int .i64 (n : Nat)]), ownB br (cellsB 3 [.int .i64 (r : Nat)])] Try.func109 rfl (by rw [Try.ntmps109]; simp) (fun g hg => hfacts [] 0 w hJ0 g (List.mem_append_left _ hg)) ?_
  refine cj_seq ?_
  refine cj_regionG (gj_step (y_fa0 fa76_0 rfl) rfl rfl rfl (gj_step (y_fa0 fa26_0 rfl) rfl rfl rfl (gj_step (y_loadS1 Try.isAgg22 rfl rfl) rfl rfl rfl (gj_step (y_lenA Try.underlying22 rfl) rfl rfl rfl (gj_step (y_move rfl) rfl rfl rfl (gj_nil ?_))))))
  refine ej_th (cj_block ?_)
  refine cj_loopB (X := Nat × Nat) (fun ⟨k, i⟩ => k ≤ (insF r s.rooms.length 0).length ∧ i ≤ s.rooms.length ∧ (insF r s.rooms.length 0).drop k = insF r (s.rooms.length - i) i) (fun ⟨k, i⟩ => [(0, .func (.yield l) #[] #[]), (1, .pointer (some ⟨bt, 0, none⟩)), (2, .pointer (some ⟨br, 0, none⟩)), (8, .int .i64 (s.rooms.length : Nat)), (9, .int .i64 (i : Nat))]) (fun ⟨k, i⟩ => fun W => J [] k W) [ownB bt (cellsB 76 [.slice s.Ar s.rooms.length s.cr, .slice s.Ag s.gates.length s.cg, .slice s.As s.staff.length s.cs, .int .i64 (n : Nat)]), ownB br (cellsB 3 [.int .i64 (r : Nat)])] (fun ⟨k, i⟩ => s.rooms.length - i) (0, 0) (⟨Nat.zero_le _, Nat.zero_le _, rfl⟩) ⟨rfl, rfl, rfl, rfl, rfl, trivial⟩ (fun w1 hp => hgr _ _ _ _ hJ0 hp.below) (fun x W h g hg => hfacts [] _ W h g (List.mem_append_left _ hg)) ?_
  rintro ⟨k, i⟩ W ⟨hk, hi, hsk⟩ hJW
  refine cj_seq ?_
  refine cj_regionG (gj_step (y_lss rfl rfl) rfl rfl rfl (gj_nil ?_))
  refine ej_th (cj_seq ?_)
  refine cj_cond rfl (fun h10 => ?_) (fun h10 => ?_)
  · have h10b := h10
    try simp only [sxb] at h10
    have hpi := pow_bd (k := i) (n := 6) (by omega) (by omega)
    refine cj_skip (ej_th (cj_seq (cj_block (cj_seq ?_))))
    refine cj_regionG (gj_step (y_move rfl) rfl rfl rfl (gj_step (y_assign rfl) rfl rfl rfl (gj_nil ?_)))
    refine ej_th (cj_seq ?_)
    refine cj_plan 10 (by kernel_rfl) (by kernel_rfl) ?_
    refine pl_y 0 rfl (y_loadS1 Try.isAgg3 rfl rfl) rfl rfl rfl rfl (by kernel_rfl) ?_
    refine pl_y 1 rfl (y_move rfl) rfl rfl rfl rfl (by kernel_rfl) ?_
    refine pl_y 2 rfl (y_shl1 rfl rfl (by omega)) rfl rfl rfl rfl (by kernel_rfl) ?_
    refine pl_y 3 rfl (y_call Try.call55 rfl (fun w hp => k_has r (2 ^ i) w (by omega) (by omega))) rfl rfl rfl rfl (by kernel_rfl) ?_
    refine pl_y 4 rfl (y_move rfl) rfl rfl rfl rfl (by kernel_rfl) ?_
    refine pl_case 16 rfl (fun hg16 => ?_) (fun hg16 => ?_)
    · have hbi := hg16
      rw [hasN_bit] at hbi
      obtain ⟨hget, hdn⟩ := ins_get (by omega) hbi hsk
      have hkl := (List.getElem?_eq_some_iff.1 hget).1
      refine pl_yY 5 rfl rfl rfl rfl hg16 (y_move rfl) rfl rfl rfl (by kernel_rfl) ?_
      refine pl_yY 6 rfl rfl rfl rfl hg16 (y_move rfl) rfl rfl rfl (by kernel_rfl) ?_
      refine pl_w1 7 (by kernel_rfl) rfl rfl (pl_fireG rfl rfl rfl rfl hg16 rfl (by kernel_rfl) ?_)
      refine oj_yesE rfl rfl rfl hg16 ?_
      refine oj_yieldB (T := TB J Jx (k + 1)) [ownB bt (cellsB 76 [.slice s.Ar s.rooms.length s.cr, .slice s.Ag s.gates.length s.cg, .slice s.As s.staff.length s.cs, .int .i64 (n : Nat)]), ownB br (cellsB 3 [.int .i64 (r : Nat)])] rfl rfl rfl (fun w1 hp => hround [] k i w1 hget (hgr _ _ _ _ hJW hp.below)) rfl (fun b W h g hg => ?_) (fun b19 W19 hT19 => ?_)
      · cases b with
        | true => exact hfacts [] _ W h g (List.mem_append_left _ hg)
        | false => exact hfx [] _ W h g (List.mem_append_left _ hg)
      rotate_left
      refine oj_nil ?_
      refine ej_plB (lt_w (by kernel_rfl) (lt_w (by kernel_rfl) (lt_w (by kernel_rfl) (lt_y (y_call Try.call55 rfl (fun w hp => k_has r (2 ^ i) w (by omega) (by omega))) rfl (lt_y (y_shl1 rfl rfl (by omega)) rfl (lt_y (y_move rfl) rfl (lt_y (y_loadS1 Try.isAgg3 rfl rfl) rfl (lt_nil)))))))) ?_
      refine pl_yY 8 rfl rfl rfl rfl hg16 (y_not rfl) rfl rfl rfl (by kernel_rfl) ?_
      refine pl_y 9 rfl (y_pickT rfl hg16 rfl) rfl rfl rfl rfl (by kernel_rfl) ?_
      refine pl_end (by kernel_rfl) ?_
      refine ej_th ?_
      refine cj_cond rfl (fun h21 => ?_) (fun h21 => ?_)
      · have h21b := h21
        try simp only [sxb] at h21
        have hb19 : b19 = false := not_t h21b
        subst hb19
        refine cj_ret (ej_blk_ret (ej_then_ret (ej_then_ret (ej_blk_ret ?_))))
        first
          | exact ej_ret0 rfl Try.results109 (fun w' hp => ⟨⟨_, rfl⟩, .inr ⟨k + 1, hgrx _ _ _ _ hT19 hp.below⟩⟩)
          | exact ej_end0 rfl Try.results109 (fun w' hp => ⟨⟨_, rfl⟩, .inl (hgr _ _ _ _ hJW hp.below)⟩)
      · have h21b := h21
        try simp only [sxb] at h21
        first
          | (have hb19 : b19 = true := not_f h21b
             subst hb19
             have hJ2 : J [] (k + 1) W19 := hT19)
          | skip
        refine cj_skip (ej_blk (ej_th ?_))
        refine cj_regionG (gj_step (y_add rfl rfl (by omega)) rfl rfl rfl (gj_step (y_move rfl) rfl rfl rfl (gj_nil ?_)))
        rw [show ((i : Nat) : Int) + 1 = ((i + 1 : Nat) : Int) by omega]
        first
          | exact ej_nxB (k + 1, i + 1) (by first | omega | (simp only; omega)) ⟨by first | omega | (simp only; omega), by first | omega | (simp only; omega), hdn⟩ ⟨rfl, rfl, rfl, rfl, rfl, trivial⟩ (fun w1 hg => hgr _ _ _ _ hJ2 hg)
          | exact ej_nxB (k, i + 1) (by first | omega | (simp only; omega)) ⟨by first | omega | (simp only; omega), by first | omega | (simp only; omega), hdn⟩ ⟨rfl, rfl, rfl, rfl, rfl, trivial⟩ (fun w1 hg => hgr _ _ _ _ hJW hg)
    · have hbi := hg16
      rw [hasN_bit] at hbi
      have hdn := ins_skip (by omega) hbi hsk
      refine pl_yN 5 rfl rfl rfl rfl hg16 rfl rfl rfl (by kernel_rfl) ?_
      refine pl_yN 6 rfl rfl rfl rfl hg16 rfl rfl rfl (by kernel_rfl) ?_
      refine pl_yN 7 rfl rfl rfl rfl hg16 rfl rfl rfl (by kernel_rfl) ?_
      refine pl_yN 8 rfl rfl rfl rfl hg16 rfl rfl rfl (by kernel_rfl) ?_
      refine pl_y 9 rfl (y_pickF rfl hg16 rfl) rfl rfl rfl rfl (by kernel_rfl) ?_
      refine pl_end (by kernel_rfl) ?_
      refine ej_th ?_
      refine cj_cond rfl (fun h21 => ?_) (fun h21 => ?_)
      · cases h21
      · have h21b := h21
        try simp only [sxb] at h21
        first
          | (have hb19 : b19 = true := not_f h21b
             subst hb19
             have hJ2 : J [] (k + 1) W19 := hT19)
          | skip
        refine cj_skip (ej_blk (ej_th ?_))
        refine cj_regionG (gj_step (y_add rfl rfl (by omega)) rfl rfl rfl (gj_step (y_move rfl) rfl rfl rfl (gj_nil ?_)))
        rw [show ((i : Nat) : Int) + 1 = ((i + 1 : Nat) : Int) by omega]
        first
          | exact ej_nxB (k + 1, i + 1) (by first | omega | (simp only; omega)) ⟨by first | omega | (simp only; omega), by first | omega | (simp only; omega), hdn⟩ ⟨rfl, rfl, rfl, rfl, rfl, trivial⟩ (fun w1 hg => hgr _ _ _ _ hJ2 hg)
          | exact ej_nxB (k, i + 1) (by first | omega | (simp only; omega)) ⟨by first | omega | (simp only; omega), by first | omega | (simp only; omega), hdn⟩ ⟨rfl, rfl, rfl, rfl, rfl, trivial⟩ (fun w1 hg => hgr _ _ _ _ hJW hg)
  · have h10b := h10
    try simp only [sxb] at h10
    have hke : i = s.rooms.length := by omega
    subst hke
    rw [Nat.sub_self] at hsk
    have hkx : k = (insF r s.rooms.length 0).length := by
      have h9 := congrArg List.length hsk
      rw [List.length_drop] at h9
      have h8 : (insF r 0 s.rooms.length).length = 0 := rfl
      omega
    subst hkx
    refine cj_exit (ej_then_exit (ej_then_exit (ej_blk_hit ?_)))
    first
      | exact ej_ret0 rfl Try.results109 (fun w' hp => ⟨⟨_, rfl⟩, .inr ⟨k + 1, hgrx _ _ _ _ hT19 hp.below⟩⟩)
      | exact ej_end0 rfl Try.results109 (fun w' hp => ⟨⟨_, rfl⟩, .inl (hgr _ _ _ _ hJW hp.below)⟩)

theorem k_inside (s : StrV) (n r : Nat) (w : World)  : Calls Try.prog 100 #[.agg #[.slice s.Ar s.rooms.length s.cr, .slice s.Ag s.gates.length s.cg, .slice s.As s.staff.length s.cs, .int .i64 (n : Nat)], .int .i64 (r : Nat)] w (fun e w' => ∃ x : Nat × Nat, e = .returned (.func (.func 109) #[] #[.pointer (some ⟨x.1, 0, none⟩), .pointer (some ⟨x.2, 0, none⟩)]) ∧ Grow w w' ∧ (∀ g ∈ ([] : List Fact), g.P w' ∧ ∀ b, g.fp b → w.heap.size ≤ b ∧ b < w'.heap.size) ∧ ([] : List Fact).Pairwise (fun f g => ∀ b, f.fp b → ¬ g.fp b) ∧ (∀ g ∈ [ownB x.1 (cellsB 76 [.slice s.Ar s.rooms.length s.cr, .slice s.Ag s.gates.length s.cg, .slice s.As s.staff.length s.cs, .int .i64 (n : Nat)]), ownB x.2 (cellsB 3 [.int .i64 (r : Nat)])], g.P w' ∧ ∀ b, g.fp b → w.heap.size ≤ b ∧ b < w'.heap.size ∧ ∀ o ∈ ([] : List Fact), ¬ o.fp b)) := by
  refine enter_pure (args := [.agg #[.slice s.Ar s.rooms.length s.cr, .slice s.Ag s.gates.length s.cg, .slice s.As s.staff.length s.cs, .int .i64 (n : Nat)], .int .i64 (r : Nat)]) [] Try.func100 rfl (by rw [Try.ntmps100]; simp) (by simp) ?_
  refine cj_seq (cj_region ?_)
  refine oj_box rfl rfl rfl (fun b2 => ?_)
  refine oj_box rfl rfl rfl (fun b3 => ?_)
  refine oj_step (y_assign rfl) rfl rfl rfl ?_
  refine oj_nil ?_
  refine ej_th (cj_seq ?_)
  refine cj_regionG (gj_step (y_makeFunc rfl rfl) rfl rfl rfl (gj_step (y_assign rfl) rfl rfl rfl (gj_nil ?_)))
  refine ej_th (cj_ret ?_)
  exact ej_ret1 rfl Try.results100 rfl (fun w' hp => ⟨(b2, b3), rfl, hp.below, by simp, List.Pairwise.nil, fun g hg => by
    have hm : g ∈ [ownB b3 (cellsB 3 [.int .i64 (r : Nat)]), ownB b2 (cellsB 76 [.slice s.Ar s.rooms.length s.cr, .slice s.Ag s.gates.length s.cg, .slice s.As s.staff.length s.cs, .int .i64 (n : Nat)])] := by
      simp only [List.mem_cons, List.mem_nil_iff, or_false] at hg ⊢
      exact hg.symm
    exact ⟨(hp.own g hm).1, fun b hb => ⟨Nat.le_of_not_lt ((hp.own g hm).2 b hb).2, ((hp.own g hm).2 b hb).1, by simp⟩⟩⟩)

theorem k_keys (s : StrV) (n r : Nat) (w : World) (hs : StrRd w s) (hok : StrOk s) (hn : n < 64) (hr : r < 64) : Calls Try.prog 88 #[.agg #[.slice s.Ar s.rooms.length s.cr, .slice s.Ag s.gates.length s.cg, .slice s.As s.staff.length s.cs, .int .i64 (n : Nat)], .int .i64 (r : Nat)] w (fun e w' => e = .returned (.int .i64 (keysN s.s n r : Nat)) ∧ Grow w w') := by
  have hns := hok.ns
  have hnr := hok.nr
  refine enter_pureM (args := [.agg #[.slice s.Ar s.rooms.length s.cr, .slice s.Ag s.gates.length s.cg, .slice s.As s.staff.length s.cs, .int .i64 (n : Nat)], .int .i64 (r : Nat)]) [sl (fun b => b < w.heap.size) 3 encRo s.Ar s.rooms, sl (fun b => b < w.heap.size) 4 encGa s.Ag s.gates, sl (fun b => b < w.heap.size) 1 enInt s.As s.staff] Try.func88 rfl (by rw [Try.ntmps88]; simp) (fun g hg => by simp at hg; rcases hg with rfl | rfl | rfl; exact ⟨hs.rooms, fun _ h => h⟩; exact ⟨hs.gates, fun _ h => h⟩; exact ⟨hs.staff, fun _ h => h⟩) ?_
  refine cj_seq (cj_region ?_)
  refine oj_box rfl rfl rfl (fun b2 => ?_)
  refine oj_step (y_assign rfl) rfl rfl rfl ?_
  refine oj_nil ?_
  refine ej_th (cj_seq (cj_region ?_))
  refine oj_alloc Try.zeroValue3 rfl rfl (fun b5 => ?_)
  refine oj_store rfl rfl rfl rfl Try.sizeOf3 rfl ?_
  refine oj_nil ?_
  refine ej_th (cj_seq (cj_seq ?_))
  refine cj_regionG (gj_step (y_fa0 fa76_0 rfl) rfl rfl rfl (gj_step (y_fa fa26_2 rfl) rfl rfl rfl (gj_step (y_load1 Try.isAgg24 rfl rfl) rfl rfl rfl (gj_step (y_lenA Try.underlying24 rfl) rfl rfl rfl (gj_step (y_move rfl) rfl rfl rfl (gj_nil ?_))))))
  refine ej_th (cj_block ?_)
  refine cj_lpi (X := Nat × Nat) [(1, _), (2, _), (4, _), (5, _), (11, _), (12, _)] (fun ⟨k, acc⟩ => k ≤ s.staff.length ∧ acc < 256 ∧ keyF n k (s.staff.drop k) acc = keyF n 0 s.staff 0) (fun ⟨k, acc⟩ => [(13, .int .i64 (k : Nat))]) (fun ⟨k, acc⟩ => [ownB b5 (cellsB 3 [.int .i64 (acc : Nat)]), ownB b2 (cellsB 76 [.slice s.Ar s.rooms.length s.cr, .slice s.Ag s.gates.length s.cg, .slice s.As s.staff.length s.cs, .int .i64 (n : Nat)])]) (fun ⟨k, acc⟩ => [sl (fun b => b < w.heap.size) 3 encRo s.Ar s.rooms, sl (fun b => b < w.heap.size) 4 encGa s.Ag s.gates, sl (fun b => b < w.heap.size) 1 enInt s.As s.staff]) (fun ⟨k, acc⟩ => s.staff.length - k) (0, 0) (⟨Nat.zero_le _, by omega, rfl⟩) ⟨rfl, rfl, rfl, rfl, rfl, rfl, rfl, trivial⟩ ?_
  rintro ⟨k, acc⟩ ⟨hk, hacc, hsk⟩
  dsimp only [List.cons_append, List.nil_append]
  refine cj_seq ?_
  refine cj_regionG (gj_step (y_lss rfl rfl) rfl rfl rfl (gj_nil ?_))
  refine ej_th (cj_seq ?_)
  refine cj_cond rfl (fun h14 => ?_) (fun h14 => ?_)
  · have h14b := h14
    try simp only [sxb] at h14
    have hpi := pow_bd (k := k) (n := 6) (by omega) (by omega)
    obtain ⟨x, hx⟩ : ∃ x, s.staff[k]? = some x := ⟨_, List.getElem?_eq_getElem (by omega)⟩
    have hxb := hok.staff x (List.mem_of_getElem? hx)
    obtain ⟨m, rfl⟩ : ∃ m : Nat, x = m := ⟨x.toNat, by omega⟩
    rw [keyF_drop n s.staff k acc _ hx, Int.toNat_natCast] at hsk
    refine cj_skip (ej_th (cj_seq (cj_block (cj_seq ?_))))
    refine cj_regionG (gj_step (y_move rfl) rfl rfl rfl (gj_step (y_ixR (reads_sl) Try.underlying24 Try.sizeOf3 rfl rfl (⟨by omega, by omega⟩)) rfl rfl rfl (gj_step (y_ld0 (reads_sl) Try.isAgg3 rfl (hx) rfl) rfl rfl rfl (gj_step (y_assign rfl) rfl rfl rfl (gj_step (y_assign rfl) rfl rfl rfl (gj_nil ?_))))))
    refine ej_th (cj_seq ?_)
    refine cj_draw (by kernel_rfl) (by kernel_rfl) ?_
    refine gj_step (y_fa fa76_1 rfl) rfl rfl rfl (gj_step (y_load1 Try.isAgg3 rfl rfl) rfl rfl rfl (gj_step (y_move rfl) rfl rfl rfl (gj_step (y_shl1 rfl rfl (by omega)) rfl rfl rfl (?_))))
    refine gj_step (y_call Try.call55 rfl (fun w hp => k_has n (2 ^ k) w (by omega) (by omega))) rfl rfl rfl ?_
    refine gj_nil ?_
    refine ej_th ?_
    refine cj_cond rfl (fun h22 => ?_) (fun h22 => ?_)
    · have h22b := h22
      try simp only [sxb] at h22
      rw [hasN_bit] at h22b
      rw [if_pos h22b] at hsk
      refine cj_region ?_
      refine oj_step (y_load1 Try.isAgg3 rfl rfl) rfl rfl rfl ?_
      refine oj_step (y_move rfl) rfl rfl rfl ?_
      refine oj_step (y_orN rfl rfl (by omega) (by omega)) rfl rfl rfl ?_
      refine oj_store rfl rfl rfl rfl Try.sizeOf3 rfl ?_
      refine oj_nil ?_
      refine ej_blk (ej_th ?_)
      refine cj_regionG (gj_step (y_add rfl rfl (by omega)) rfl rfl rfl (gj_step (y_move rfl) rfl rfl rfl (gj_nil ?_)))
      exact ej_nx (k + 1, acc ||| m) (by first | omega | (simp only; omega)) ⟨by first | omega | (simp only; omega), or256 hacc (by omega), hsk⟩ ⟨rfl, rfl, rfl, rfl, rfl, rfl, rfl, trivial⟩
    · have h22b := h22
      try simp only [sxb] at h22
      rw [hasN_bit] at h22b
      rw [if_neg (by rw [h22b]; simp)] at hsk
      refine cj_skip (ej_blk (ej_th ?_))
      refine cj_regionG (gj_step (y_add rfl rfl (by omega)) rfl rfl rfl (gj_step (y_move rfl) rfl rfl rfl (gj_nil ?_)))
      exact ej_nx (k + 1, acc) (by first | omega | (simp only; omega)) ⟨by first | omega | (simp only; omega), hacc, hsk⟩ ⟨rfl, rfl, rfl, rfl, rfl, rfl, rfl, trivial⟩
  · have h14b := h14
    try simp only [sxb] at h14
    rw [List.drop_of_length_le (by omega)] at hsk
    have hsk2 : acc = keyF n 0 s.staff 0 := hsk
    clear hsk
    subst hsk2
    have hK := keys_ins s n r
    refine cj_exit (ej_then_exit (ej_then_exit (ej_blk_hit (ej_th (cj_seq (cj_seq (cj_region ?_)))))))
    refine oj_step (y_loadN Try.isAgg76 Try.sizeOf76 rfl) rfl rfl rfl ?_
    refine oj_step (y_move rfl) rfl rfl rfl ?_
    refine oj_call (X := Nat × Nat) (fun z => .func (.func 109) #[] #[.pointer (some ⟨z.1, 0, none⟩), .pointer (some ⟨z.2, 0, none⟩)]) (fun _ => []) (fun z => [ownB z.1 (cellsB 76 [.slice s.Ar s.rooms.length s.cr, .slice s.Ag s.gates.length s.cg, .slice s.As s.staff.length s.cs, .int .i64 (n : Nat)]), ownB z.2 (cellsB 3 [.int .i64 (r : Nat)])]) Try.call100 rfl (fun w hp => k_inside s n r w) rfl ?_
    rintro ⟨bt, br⟩
    dsimp only [List.nil_append, List.cons_append]
    refine oj_nil ?_
    refine ej_th (cj_block ?_)
    refine cj_rangeX (k_inside1 s n r bt br (by omega) (by omega)) (Y := Nat) (Z := Empty) (fun k y => y < 256 ∧ ((insF r s.rooms.length 0).drop k).foldl (orK s) y = keysN s.s n r) (fun _ y => [ownB b5 (cellsB 3 [.int .i64 (y : Nat)]), ownB b2 (cellsB 76 [.slice s.Ar s.rooms.length s.cr, .slice s.Ag s.gates.length s.cg, .slice s.As s.staff.length s.cs, .int .i64 (n : Nat)])]) Empty.elim Empty.elim (keyF n 0 s.staff 0) ⟨hacc, by rw [hK]; rfl⟩ rfl Try.call109 (fun _ => rfl) rfl ?_ ?_ ?_
    · rintro Xs lo Db r0 r1 k p y hp9 ⟨hy256, hy⟩
      have hp6 := insF_mem _ _ _ _ (List.mem_of_getElem? hp9)
      obtain ⟨rm, hrm⟩ : ∃ rm, s.rooms[p]? = some rm := ⟨_, List.getElem?_eq_getElem (by omega)⟩
      have hrb := (hok.room rm (List.mem_of_getElem? hrm)).2.2
      obtain ⟨hd, cl, ky⟩ := rm
      obtain ⟨m, rfl⟩ : ∃ m : Nat, ky = m := ⟨ky.toNat, by simp only at hrb; omega⟩
      simp only at hrb
      rw [get_drop hp9, List.foldl_cons, show orK s y p = y ||| m by unfold orK; rw [roomKey_get hrm, Int.toNat_natCast]] at hy
      dsimp only [List.cons_append, List.nil_append]
      refine cj_regionG (gj_step (y_assign rfl) rfl rfl rfl (gj_nil ?_))
      refine ej_beg (cj_block ?_)
      refine cj_plan 10 (by kernel_rfl) (by kernel_rfl) ?_
      refine pl_y 0 rfl (y_load1 Try.isAgg3 rfl rfl) rfl rfl rfl rfl (by kernel_rfl) ?_
      refine pl_y 1 rfl (y_fa0 fa76_0 rfl) rfl rfl rfl rfl (by kernel_rfl) ?_
      refine pl_y 2 rfl (y_fa0 fa26_0 rfl) rfl rfl rfl rfl (by kernel_rfl) ?_
      refine pl_y 3 rfl (y_load1 Try.isAgg22 rfl rfl) rfl rfl rfl rfl (by kernel_rfl) ?_
      refine pl_y 4 rfl (y_move rfl) rfl rfl rfl rfl (by kernel_rfl) ?_
      refine pl_y 5 rfl (y_ixR (reads_sl) Try.underlying22 Try.sizeOf71 rfl rfl (⟨by omega, by omega⟩)) rfl rfl rfl rfl (by kernel_rfl) ?_
      refine pl_y 6 rfl (y_faE fa71_2 rfl) rfl rfl rfl rfl (by kernel_rfl) ?_
      refine pl_y 7 rfl (y_ld1 (reads_sl) Try.isAgg3 rfl (hrm) rfl) rfl rfl rfl rfl (by kernel_rfl) ?_
      refine pl_y 8 rfl (y_orN rfl rfl (by omega) (by omega)) rfl rfl rfl rfl (by kernel_rfl) ?_
      refine pl_w1 9 (by kernel_rfl) rfl rfl (pl_fire rfl rfl rfl (by kernel_rfl) ?_)
      refine oj_store rfl rfl rfl rfl Try.sizeOf3 rfl ?_
      refine oj_nil ?_
      refine ej_pl (lt_w (by kernel_rfl) (lt_w (by kernel_rfl) (lt_w (by kernel_rfl) (lt_w (by kernel_rfl) (lt_w (by kernel_rfl) (lt_w (by kernel_rfl) (lt_w (by kernel_rfl) (lt_w (by kernel_rfl) (lt_w (by kernel_rfl) (lt_nil)))))))))) ?_
      refine pl_end (by kernel_rfl) ?_
      refine ej_blk ?_
      exact ej_rdS (y ||| m) ⟨or256 hy256 (by omega), hy⟩ (fun _ h => h)
    · rintro Db y ⟨-, hy⟩
      rw [List.drop_of_length_le (Nat.le_refl _)] at hy
      have hy2 : y = keysN s.s n r := hy
      subst hy2
      refine ej_blk (ej_th (cj_seq ?_))
      refine cj_regionG (gj_step (y_load1 Try.isAgg3 rfl rfl) rfl rfl rfl (gj_step (y_assign rfl) rfl rfl rfl (gj_nil ?_)))
      refine ej_th (cj_ret ?_)
      exact ej_retM1 rfl Try.results88 rfl (fun w' hp => ⟨rfl, hp.below⟩)
    · intro Db z; exact z.elim

end Go.Proofs.Ytomidcehahdmbaa
namespace Go.Proofs.Ytomidcehahdmbaa
open Go.Sx Go.RowKit Vm
set_option maxRecDepth 20000
theorem k_op1 (s : StrV) (n r m bt br : Nat) (w : World) (hs : StrRd w s) (hok : StrOk s) (hn : n < 64) (hr : r < 64) (hm : m < 256) (hbt : (ownB bt (cellsB 76 [.slice s.Ar s.rooms.length s.cr, .slice s.Ag s.gates.length s.cg, .slice s.As s.staff.length s.cs, .int .i64 (n : Nat)])).P w) (hbr : (ownB br (cellsB 3 [.int .i64 (r : Nat)])).P w) : Calls Try.prog 87 #[.int .i64 (m : Nat), .pointer (some ⟨bt, 0, none⟩), .pointer (some ⟨br, 0, none⟩)] w (fun e w' => e = .returned (.bool (hasN (keysN s.s n r) m)) ∧ Grow w w') := by
  have hk := keysN_lt hok n r
  refine enter_pure (args := [.int .i64 (m : Nat), .pointer (some ⟨bt, 0, none⟩), .pointer (some ⟨br, 0, none⟩)]) [ownB bt (cellsB 76 [.slice s.Ar s.rooms.length s.cr, .slice s.Ag s.gates.length s.cg, .slice s.As s.staff.length s.cs, .int .i64 (n : Nat)]), ownB br (cellsB 3 [.int .i64 (r : Nat)])] Try.func87 rfl (by rw [Try.ntmps87]; simp) (fun f hf => by
    simp only [List.mem_cons, List.mem_nil_iff, or_false] at hf
    rcases hf with rfl | rfl
    · exact ⟨hbt, fun i hi => by have : i = bt := hi; subst this; exact (Array.getElem?_eq_some_iff.1 hbt).1⟩
    · exact ⟨hbr, fun i hi => by have : i = br := hi; subst this; exact (Array.getElem?_eq_some_iff.1 hbr).1⟩) ?_
  refine cj_seq ?_
  refine cj_regionG (gj_step (y_assign rfl) rfl rfl rfl (gj_nil ?_))
  refine ej_th (cj_seq ?_)
  refine cj_regionG ?_
  refine gj_step (y_loadSN Try.isAgg76 Try.sizeOf76 rfl) rfl rfl rfl (gj_step (y_loadS1 Try.isAgg3 rfl rfl) rfl rfl rfl (?_))
  refine gj_step (y_call Try.call88 rfl (fun w hp => k_keys s n r w (hs.mono hp.below) hok hn hr)) rfl rfl rfl ?_
  refine gj_step (y_move rfl) rfl rfl rfl (?_)
  refine gj_step (y_call Try.call55 rfl (fun w hp => k_has _ m w (by omega) (by omega))) rfl rfl rfl ?_
  refine gj_step (y_assign rfl) rfl rfl rfl (?_)
  refine gj_nil ?_
  refine ej_th (cj_ret ?_)
  exact ej_ret1 rfl Try.results87 rfl (fun w' hp => ⟨rfl, hp.below⟩)

theorem k_opens (s : StrV) (n r : Nat) (g : GateV) (w : World) (hs : StrRd w s) (hok : StrOk s) (hn : n < 64) (hr : r < 64) (hg : g ∈ s.gates) : Calls Try.prog 75 #[.agg #[.slice s.Ar s.rooms.length s.cr, .slice s.Ag s.gates.length s.cg, .slice s.As s.staff.length s.cs, .int .i64 (n : Nat)], .agg #[.int .i64 g.a, .int .i64 g.b, .int .i64 g.need, .slice g.A g.ways.length g.c], .int .i64 (r : Nat)] w (fun e w' => e = .returned (.bool (openN s.s n r g.n)) ∧ Grow w w') := by
  have hgo := hok.gate g hg
  obtain ⟨hga, hgb, hgne, hgn, hgl, hgw⟩ := hgo
  have hpc := popc_le n
  refine enter_pure (args := [.agg #[.slice s.Ar s.rooms.length s.cr, .slice s.Ag s.gates.length s.cg, .slice s.As s.staff.length s.cs, .int .i64 (n : Nat)], .agg #[.int .i64 g.a, .int .i64 g.b, .int .i64 g.need, .slice g.A g.ways.length g.c], .int .i64 (r : Nat)]) [sl (fun b => b < w.heap.size) 1 enInt g.A g.ways] Try.func75 rfl (by rw [Try.ntmps75]; simp) (fun g hg => by simp at hg; subst hg; exact ⟨hs.ways g hg, fun _ h => h⟩) ?_
  refine cj_seq (cj_region ?_)
  refine oj_box rfl rfl rfl (fun b3 => ?_)
  refine oj_box rfl rfl rfl (fun b4 => ?_)
  refine oj_box rfl rfl rfl (fun b5 => ?_)
  refine oj_step (y_assign rfl) rfl rfl rfl ?_
  refine oj_nil ?_
  refine ej_th (cj_seq ?_)
  refine cj_draw (by kernel_rfl) (by kernel_rfl) ?_
  refine gj_step (y_fa fa76_1 rfl) rfl rfl rfl (gj_step (y_load1 Try.isAgg3 rfl rfl) rfl rfl rfl (gj_step (y_toU Try.underlying3 Try.underlying112 rfl (by omega)) rfl rfl rfl (?_)))
  refine gj_step (y_call Try.call83 rfl (fun w hp => (k_ocN n (by omega) w).mono fun e w1 h => ⟨h.1, by rw [h.2]; exact Below.refl _ _⟩)) rfl rfl rfl ?_
  refine gj_step (y_fa fa69_2 rfl) rfl rfl rfl (gj_step (y_load1 Try.isAgg3 rfl rfl) rfl rfl rfl (gj_step (y_geq rfl rfl) rfl rfl rfl (gj_step (y_move rfl) rfl rfl rfl (?_))))
  refine gj_g 4 14 18 rfl rfl rfl rfl (fun hg14 => gj_yes rfl rfl rfl (y_fa fa69_3 rfl) rfl rfl (gj_yes rfl rfl rfl (y_load1 Try.isAgg24 rfl rfl) rfl rfl (gj_yes rfl rfl rfl (y_makeFunc rfl rfl) rfl rfl (gj_yes rfl rfl rfl (y_call Try.call48 rfl (fun w hp => k_ContI g.ways g.A g.c 87 #[.pointer (some ⟨b3, 0, none⟩), .pointer (some ⟨b5, 0, none⟩)] (fun x => hasN (keysN s.s n r) x.toNat) w hp.rd Try.call87 (fun x hx w1 hg => by
    have hx2 := hgw x hx
    obtain ⟨m, rfl⟩ : ∃ m : Nat, x = m := ⟨x.toNat, by omega⟩
    exact k_op1 s n r m b3 b5 w1 ((hs.mono hp.below).mono hg) hok hn hr (by omega) ((hp.grow hg).own1) ((hp.grow hg).own1)))) rfl rfl (gj_nil rfl))))) ?_
  refine gj_step (y_and rfl rfl rfl) rfl rfl rfl (gj_step (y_assign rfl) rfl rfl rfl (?_))
  refine gj_nil ?_
  refine ej_th (cj_ret ?_)
  exact ej_ret1 rfl Try.results75 rfl (fun w' hp => ⟨rfl, hp.below⟩)

theorem k_new (s : StrV) (n r : Nat) (g : GateV) (w : World) (hs : StrRd w s) (hb : strB s.s = true) (hn : n < 64) (hr : r < 2 ^ s.rooms.length) (hg : g ∈ s.gates) : Calls Try.prog 54 #[.agg #[.slice s.Ar s.rooms.length s.cr, .slice s.Ag s.gates.length s.cg, .slice s.As s.staff.length s.cs, .int .i64 (n : Nat)], .agg #[.int .i64 g.a, .int .i64 g.b, .int .i64 g.need, .slice g.A g.ways.length g.c], .int .i64 (r : Nat)] w (fun e w' => e = .returned (.tuple #[.int .i64 (newI s n r g), .bool (leadN s.s n r g.n)]) ∧ Grow w w') := by
  have hok := StrOk.of hb
  have hnr := hok.nr
  have hng := hok.ng
  have hns := hok.ns
  have hr64 : r < 64 := Nat.lt_of_lt_of_le hr (pow_le64 hnr.2)
  have hgo := hok.gate g hg
  obtain ⟨hga, hgb, hgne, hgn, hgl, hgw⟩ := hgo
  have hpa : 2 ^ g.a.toNat ≤ 1152921504606846976 := pow_bd (n := 6) (by omega) (by omega)
  have hpb : 2 ^ g.b.toNat ≤ 1152921504606846976 := pow_bd (n := 6) (by omega) (by omega)
  refine enter_pure (args := [.agg #[.slice s.Ar s.rooms.length s.cr, .slice s.Ag s.gates.length s.cg, .slice s.As s.staff.length s.cs, .int .i64 (n : Nat)], .agg #[.int .i64 g.a, .int .i64 g.b, .int .i64 g.need, .slice g.A g.ways.length g.c], .int .i64 (r : Nat)]) [] Try.func54 rfl (by rw [Try.ntmps54]; simp) (by simp) ?_
  refine cj_seq (cj_region ?_)
  refine oj_box rfl rfl rfl (fun b3 => ?_)
  refine oj_box rfl rfl rfl (fun b4 => ?_)
  refine oj_step (y_assign rfl) rfl rfl rfl ?_
  refine oj_step (y_assign rfl) rfl rfl rfl ?_
  refine oj_nil ?_
  refine ej_th (cj_seq ?_)
  refine cj_draw (by kernel_rfl) (by kernel_rfl) ?_
  refine gj_step (y_move rfl) rfl rfl rfl (gj_step (y_fa0 fa69_0 rfl) rfl rfl rfl (gj_step (y_load1 Try.isAgg3 rfl rfl) rfl rfl rfl (gj_step (y_shl1I rfl rfl (by omega) (by omega)) rfl rfl rfl (?_))))
  refine gj_step (y_call Try.call55 rfl (fun w hp => k_has r (2 ^ g.a.toNat) w (by omega) (by omega))) rfl rfl rfl ?_
  refine gj_step (y_move rfl) rfl rfl rfl (gj_step (y_fa fa69_1 rfl) rfl rfl rfl (gj_step (y_load1 Try.isAgg3 rfl rfl) rfl rfl rfl (gj_step (y_shl1I rfl rfl (by omega) (by omega)) rfl rfl rfl (?_))))
  refine gj_step (y_call Try.call55 rfl (fun w hp => k_has r (2 ^ g.b.toNat) w (by omega) (by omega))) rfl rfl rfl ?_
  refine gj_step (y_assign rfl) rfl rfl rfl (gj_step (y_assign rfl) rfl rfl rfl (?_))
  refine gj_nil ?_
  refine ej_th (cj_seq (cj_seq ?_))
  refine cj_regionG ?_
  refine gj_step (y_move rfl) rfl rfl rfl (gj_step (y_move rfl) rfl rfl rfl (gj_step (y_eqlB Try.underlying4 rfl rfl) rfl rfl rfl (gj_step (y_move rfl) rfl rfl rfl (?_))))
  refine gj_g 5 23 28 rfl rfl rfl rfl (fun hg23 => gj_yes rfl rfl rfl (y_loadN Try.isAgg76 Try.sizeOf76 rfl) rfl rfl (gj_yes rfl rfl rfl (y_loadN Try.isAgg69 Try.sizeOf69 rfl) rfl rfl (gj_yes rfl rfl rfl (y_move rfl) rfl rfl (gj_yes rfl rfl rfl (y_call Try.call75 rfl (fun w hp => k_opens s n r g w (hs.mono hp.below) hok hn hr64 hg)) rfl rfl (gj_yes rfl rfl rfl (y_not rfl) rfl rfl (gj_nil rfl)))))) ?_
  refine gj_step (y_or rfl rfl rfl) rfl rfl rfl (?_)
  refine gj_nil ?_
  refine ej_th ?_
  refine cj_cond rfl (fun h29 => ?_) (fun h29 => ?_)
  · have h29b := h29
    try simp only [sxb] at h29
    rw [hasN_bit, hasN_bit, new_V] at h29b
    refine cj_seq ?_
    refine cj_regionG (gj_step (y_assign rfl) rfl rfl rfl (gj_step (y_assign rfl) rfl rfl rfl (gj_nil ?_)))
    refine ej_th (cj_ret (ej_then_ret ?_))
    refine ej_ret2 rfl Try.results54 rfl rfl (fun w' hp => ⟨?_, hp.below⟩)
    rw [newI, if_neg (by rw [not_t h29b]; simp), not_t h29b]
  · have h29b := h29
    try simp only [sxb] at h29
    rw [hasN_bit, hasN_bit, new_V] at h29b
    refine cj_skip (ej_th (cj_seq (cj_seq ?_)))
    refine cj_regionG (gj_step (y_move rfl) rfl rfl rfl (gj_nil ?_))
    refine ej_th ?_
    refine cj_cond rfl (fun h30 => ?_) (fun h30 => ?_)
    · have h30b := h30
      try simp only [sxb] at h30
      rw [hasN_bit] at h30b
      refine cj_seq ?_
      refine cj_regionG (gj_step (y_fa fa69_1 rfl) rfl rfl rfl (gj_step (y_load1 Try.isAgg3 rfl rfl) rfl rfl rfl (gj_step (y_assign rfl) rfl rfl rfl (gj_step (y_assign rfl) rfl rfl rfl (gj_nil ?_)))))
      refine ej_th (cj_ret (ej_then_ret ?_))
      refine ej_ret2 rfl Try.results54 rfl rfl (fun w' hp => ⟨?_, hp.below⟩)
      rw [newI, if_pos (not_f h29b), if_pos h30b, not_f h29b]
    · have h30b := h30
      try simp only [sxb] at h30
      rw [hasN_bit] at h30b
      refine cj_skip (ej_th (cj_seq ?_))
      refine cj_regionG (gj_step (y_fa0 fa69_0 rfl) rfl rfl rfl (gj_step (y_load1 Try.isAgg3 rfl rfl) rfl rfl rfl (gj_step (y_assign rfl) rfl rfl rfl (gj_step (y_assign rfl) rfl rfl rfl (gj_nil ?_)))))
      refine ej_th (cj_ret ?_)
      refine ej_ret2 rfl Try.results54 rfl rfl (fun w' hp => ⟨?_, hp.below⟩)
      rw [newI, if_pos (not_f h29b), if_neg (by rw [h30b]; simp), not_f h29b]

theorem k_reach (s : StrV) (n : Nat) (w : World) (hs : StrRd w s) (hb : strB s.s = true) (hn : n < 64) : Calls Try.prog 43 #[.agg #[.slice s.Ar s.rooms.length s.cr, .slice s.Ag s.gates.length s.cg, .slice s.As s.staff.length s.cs, .int .i64 (n : Nat)]] w (fun e w' => e = .returned (.int .i64 (reachV s.s n : Nat)) ∧ Grow w w') := by
  have hok := StrOk.of hb
  have hnr := hok.nr
  have hng := hok.ng
  have hns := hok.ns
  refine enter_pure (args := [.agg #[.slice s.Ar s.rooms.length s.cr, .slice s.Ag s.gates.length s.cg, .slice s.As s.staff.length s.cs, .int .i64 (n : Nat)]]) [sl (fun b => b < w.heap.size) 3 encRo s.Ar s.rooms, sl (fun b => b < w.heap.size) 4 encGa s.Ag s.gates, sl (fun b => b < w.heap.size) 1 enInt s.As s.staff] Try.func43 rfl (by rw [Try.ntmps43]; simp) (fun g hg => by simp at hg; rcases hg with rfl | rfl | rfl; exact ⟨hs.rooms, fun _ h => h⟩; exact ⟨hs.gates, fun _ h => h⟩; exact ⟨hs.staff, fun _ h => h⟩) ?_
  refine cj_seq (cj_region ?_)
  refine oj_box rfl rfl rfl (fun b1 => ?_)
  refine oj_step (y_assign rfl) rfl rfl rfl ?_
  refine oj_nil ?_
  refine ej_th ?_
  refine cj_scope rfl ?_
  refine cj_seq ?_
  refine cj_regionG (gj_step (y_assign rfl) rfl rfl rfl (gj_nil ?_))
  refine ej_th (cj_seq (cj_label (ej_th (cj_block ?_))))
  refine cj_lpi (X := Nat) [(1, _)] (fun r => r < 2 ^ s.rooms.length ∧ reachW s.s n r = reachV s.s n) (fun r => [(3, .int .i64 (r : Nat))]) (fun r => [ownB b1 (cellsB 76 [.slice s.Ar s.rooms.length s.cr, .slice s.Ag s.gates.length s.cg, .slice s.As s.staff.length s.cs, .int .i64 (n : Nat)])]) (fun r => [sl (fun b => b < w.heap.size) 3 encRo s.Ar s.rooms, sl (fun b => b < w.heap.size) 4 encGa s.Ag s.gates, sl (fun b => b < w.heap.size) 1 enInt s.As s.staff]) (fun r => 64 - r) 1 (⟨one_lt hb, rfl⟩) ⟨rfl, rfl, trivial⟩ ?_
  rintro r ⟨hr, hW⟩
  dsimp only [List.cons_append, List.nil_append]
  have hr64 : r < 64 := Nat.lt_of_lt_of_le hr (pow_le64 hnr.2)
  refine cj_block (cj_seq (cj_seq ?_))
  refine cj_regionG (gj_step (y_fa0 fa76_0 rfl) rfl rfl rfl (gj_step (y_fa fa26_1 rfl) rfl rfl rfl (gj_step (y_load1 Try.isAgg23 rfl rfl) rfl rfl rfl (gj_step (y_lenA Try.underlying23 rfl) rfl rfl rfl (gj_step (y_move rfl) rfl rfl rfl (gj_nil ?_))))))
  refine ej_th (cj_block ?_)
  refine cj_lpi (X := Nat) [(1, _), (10, _), (11, _)] (fun k => k ≤ s.gates.length ∧ (s.gates.take k).all (fun g => !leadN s.s n r g.n) = true) (fun k => [(3, .int .i64 (r : Nat)), (12, .int .i64 (k : Nat))]) (fun k => [ownB b1 (cellsB 76 [.slice s.Ar s.rooms.length s.cr, .slice s.Ag s.gates.length s.cg, .slice s.As s.staff.length s.cs, .int .i64 (n : Nat)])]) (fun k => [sl (fun b => b < w.heap.size) 3 encRo s.Ar s.rooms, sl (fun b => b < w.heap.size) 4 encGa s.Ag s.gates, sl (fun b => b < w.heap.size) 1 enInt s.As s.staff]) (fun k => s.gates.length - k) 0 (⟨Nat.zero_le _, rfl⟩) ⟨rfl, rfl, rfl, rfl, rfl, trivial⟩ ?_
  rintro k ⟨hk, hall⟩
  dsimp only [List.cons_append, List.nil_append]
  refine cj_seq ?_
  refine cj_regionG (gj_step (y_lss rfl rfl) rfl rfl rfl (gj_nil ?_))
  refine ej_th (cj_seq ?_)
  refine cj_cond rfl (fun h13 => ?_) (fun h13 => ?_)
  · have h13b := h13
    try simp only [sxb] at h13
    obtain ⟨g, hgk⟩ : ∃ g, s.gates[k]? = some g := ⟨_, List.getElem?_eq_getElem (by omega)⟩
    have hg := List.mem_of_getElem? hgk
    have hgo := hok.gate g hg
    obtain ⟨hga, hgb, hgne, hgn, hgl, hgw⟩ := hgo
    refine cj_skip (ej_th (cj_seq (cj_block (cj_seq (cj_region ?_)))))
    refine oj_step (y_ixR (reads_sl) Try.underlying23 Try.sizeOf69 rfl rfl (⟨by omega, by omega⟩)) rfl rfl rfl ?_
    refine oj_step (y_ldW (reads_sl) Try.isAgg69 Try.sizeOf69 rfl (hgk) (fun _ => rfl)) rfl rfl rfl ?_
    refine oj_alloc Try.zeroValue69 rfl rfl (fun b5 => ?_)
    refine oj_store rfl rfl rfl rfl Try.sizeOf69 rfl ?_
    refine oj_nil ?_
    refine ej_th (cj_seq ?_)
    refine cj_regionG ?_
    refine gj_step (y_loadN Try.isAgg76 Try.sizeOf76 rfl) rfl rfl rfl (gj_step (y_loadN Try.isAgg69 Try.sizeOf69 rfl) rfl rfl rfl (gj_step (y_move rfl) rfl rfl rfl (?_)))
    refine gj_step (y_call Try.call54 rfl (fun w hp => k_new s n r g w (hs.mono hp.below) hb hn hr hg)) rfl rfl rfl ?_
    refine gj_step (y_move rfl) rfl rfl rfl (gj_step (y_extract rfl rfl) rfl rfl rfl (gj_step (y_extract rfl rfl) rfl rfl rfl (gj_step (y_assign rfl) rfl rfl rfl (gj_step (y_assign rfl) rfl rfl rfl (?_)))))
    refine gj_nil ?_
    refine ej_th (cj_seq ?_)
    refine cj_regionG (gj_step (y_move rfl) rfl rfl rfl (gj_nil ?_))
    refine ej_th ?_
    refine cj_cond rfl (fun h23 => ?_) (fun h23 => ?_)
    · have h23b := h23
      try simp only [sxb] at h23
      have hnx := next_new h23b
      have hnb : 0 ≤ newI s n r g ∧ newI s n r g ≤ 5 := by unfold newI; rw [if_pos h23b]; split <;> omega
      have hpn : 2 ^ (newI s n r g).toNat ≤ 1152921504606846976 := pow_bd (n := 6) (by omega) (by omega)
      have hlt := next_lt hb hr (List.mem_map.2 ⟨g, hg, rfl⟩)
      have hgt := next_gt h23b
      have hst := reachW_some hb hr (find_step hgk hall h23b)
      refine cj_seq ?_
      refine cj_regionG (gj_step (y_move rfl) rfl rfl rfl (gj_step (y_move rfl) rfl rfl rfl (gj_step (y_shl1I rfl rfl (by omega) (by omega)) rfl rfl rfl (gj_step (y_orN rfl rfl (by omega) (by omega)) rfl rfl rfl (gj_step (y_assign rfl) rfl rfl rfl (gj_nil ?_))))))
      refine ej_th (cj_exit (ej_blk_pass rfl (ej_then_exit (ej_then_exit (ej_blk_pass rfl (ej_then_exit (ej_blk_hit ?_)))))))
      rw [hnx]
      exact ej_nx (nextN r g.n) (by first | omega | (simp only; omega)) ⟨hlt, by rw [← hst]; exact hW⟩ ⟨rfl, rfl, trivial⟩
    · have h23b := h23
      try simp only [sxb] at h23
      refine cj_skip (ej_blk (ej_th ?_))
      refine cj_regionG (gj_step (y_add rfl rfl (by omega)) rfl rfl rfl (gj_step (y_move rfl) rfl rfl rfl (gj_nil ?_)))
      exact ej_nx (k + 1) (by omega) ⟨by omega, take_all hgk hall (by rw [h23b]; rfl)⟩ ⟨rfl, rfl, rfl, rfl, rfl, trivial⟩
  · have h13b := h13
    try simp only [sxb] at h13
    have hfin := reachW_none hb hr (find_stop (by rw [← hall, List.take_of_length_le (by omega)]))
    rw [hW] at hfin
    subst hfin
    refine cj_exit (ej_then_exit (ej_then_exit (ej_blk_hit (ej_th (cj_seq ?_)))))
    refine cj_regionG (gj_step (y_move rfl) rfl rfl rfl (gj_step (y_assign rfl) rfl rfl rfl (gj_nil ?_)))
    refine ej_th (cj_ret (ej_blk_ret (ej_then_ret (ej_blk_ret (ej_noGoto_ret ?_)))))
    exact ej_ret1 rfl Try.results43 rfl (fun w' hp => ⟨rfl, hp.below⟩)

theorem k_asked (s : StrV) (g : Int) (w : World) (hs : StrRd w s) : Calls Try.prog 42 #[.agg #[.slice s.Ar s.rooms.length s.cr, .slice s.Ag s.gates.length s.cg, .slice s.As s.staff.length s.cs], .int .i64 g] w (fun e w' => e = .returned (.tuple #[.agg #[.slice (askS s g).Ar (askS s g).rooms.length (askS s g).cr, .slice (askS s g).Ag (askS s g).gates.length (askS s g).cg, .slice (askS s g).As (askS s g).staff.length (askS s g).cs, .int .i64 (askG s g)], .int .i64 (askE s g)]) ∧ Grow w w') := by
  refine enter_pure (args := [.agg #[.slice s.Ar s.rooms.length s.cr, .slice s.Ag s.gates.length s.cg, .slice s.As s.staff.length s.cs], .int .i64 g]) [] Try.func42 rfl (by rw [Try.ntmps42]; simp) (by simp) ?_
  refine cj_seq (cj_region ?_)
  refine oj_box rfl rfl rfl (fun b2 => ?_)
  refine oj_alloc Try.zeroValue76 rfl rfl (fun b4 => ?_)
  refine oj_step (y_assign rfl) rfl rfl rfl ?_
  refine oj_nil ?_
  refine ej_th (cj_seq (cj_seq ?_))
  refine cj_regionG ?_
  refine gj_step (y_loadN Try.isAgg26 Try.sizeOf26 rfl) rfl rfl rfl (?_)
  refine gj_step (y_call Try.call15 rfl (fun w hp => k_Check s w (hs.mono hp.below))) rfl rfl rfl ?_
  refine gj_step (y_assign rfl) rfl rfl rfl (?_)
  refine gj_nil ?_
  refine ej_th (cj_seq ?_)
  refine cj_regionG (gj_step (y_move rfl) rfl rfl rfl (gj_step (y_neq rfl rfl) rfl rfl rfl (gj_nil ?_)))
  refine ej_th ?_
  refine cj_cond rfl (fun h10 => ?_) (fun h10 => ?_)
  · have h10b := h10
    try simp only [sxb] at h10
    have hb := (strE_f h10).1
    have h40 := (strE_f h10).2
    obtain ⟨e1, e2, e3⟩ := ask_40 (g := g) hb
    refine cj_seq (cj_region ?_)
    refine oj_step (y_build st76 rfl rfl) rfl rfl rfl ?_
    refine oj_step (y_move rfl) rfl rfl rfl ?_
    refine oj_store rfl rfl rfl rfl Try.sizeOf76 rfl ?_
    refine oj_step (y_assign rfl) rfl rfl rfl ?_
    refine oj_nil ?_
    refine ej_th (cj_ret (ej_then_ret ?_))
    exact ej_retC2 rfl Try.results42 rfl (y_loadN Try.isAgg76 Try.sizeOf76 rfl) rfl (fun w' hp => ⟨by rw [e1, e2, e3, h40]; rfl, hp.below⟩)
  · have h10b := h10
    try simp only [sxb] at h10
    have hb := strE_t (by simpa using h10)
    refine cj_skip (ej_th (cj_seq (cj_seq ?_)))
    refine cj_regionG ?_
    refine gj_step (y_move rfl) rfl rfl rfl (gj_step (y_fa fa26_2 rfl) rfl rfl rfl (gj_step (y_load1 Try.isAgg24 rfl rfl) rfl rfl rfl (gj_step (y_lenA Try.underlying24 rfl) rfl rfl rfl (?_))))
    refine gj_step (y_call Try.call47 rfl (fun w hp => k_set g s.staff.length w (Nat.le_trans (m := 6) (rooms_le hb).2.2.2.1 (by omega)))) rfl rfl rfl ?_
    refine gj_step (y_not rfl) rfl rfl rfl (?_)
    refine gj_nil ?_
    refine ej_th ?_
    refine cj_cond rfl (fun h18 => ?_) (fun h18 => ?_)
    · have h18b := h18
      try simp only [sxb] at h18
      obtain ⟨e1, e2, e3⟩ := ask_41 hb (not_t h18b)
      refine cj_seq (cj_region ?_)
      refine oj_step (y_build st76 rfl rfl) rfl rfl rfl ?_
      refine oj_store rfl rfl rfl rfl Try.sizeOf76 rfl ?_
      refine oj_step (y_assign rfl) rfl rfl rfl ?_
      refine oj_nil ?_
      refine ej_th (cj_ret (ej_then_ret ?_))
      exact ej_retC2 rfl Try.results42 rfl (y_loadN Try.isAgg76 Try.sizeOf76 rfl) rfl (fun w' hp => ⟨by rw [e1, e2, e3]; rfl, hp.below⟩)
    · have h18b := h18
      try simp only [sxb] at h18
      have e1 := ask_yes hb (not_f h18b)
      obtain ⟨e2, e3, _⟩ := ask_0 e1
      refine cj_skip (ej_th (cj_seq (cj_region ?_)))
      refine oj_step (y_loadN Try.isAgg26 Try.sizeOf26 rfl) rfl rfl rfl ?_
      refine oj_step (y_move rfl) rfl rfl rfl ?_
      refine oj_step (y_build (cs := [.slice s.Ar s.rooms.length s.cr, .slice s.Ag s.gates.length s.cg, .slice s.As s.staff.length s.cs, .int .i64 g]) st76 rfl (by kernel_rfl)) rfl rfl rfl ?_
      refine oj_store rfl rfl rfl rfl Try.sizeOf76 rfl ?_
      refine oj_step (y_assign rfl) rfl rfl rfl ?_
      refine oj_nil ?_
      refine ej_th (cj_ret ?_)
      exact ej_retC2 rfl Try.results42 rfl (y_loadN Try.isAgg76 Try.sizeOf76 rfl) rfl (fun w' hp => ⟨by rw [e1, e2, e3], hp.below⟩)

theorem k_Enter (s : StrV) (g : Int) (w : World) (hs : StrRd w s) : Calls Try.prog 13 #[.agg #[.slice s.Ar s.rooms.length s.cr, .slice s.Ag s.gates.length s.cg, .slice s.As s.staff.length s.cs], .int .i64 g] w (fun e w' => e = .returned (.tuple #[.int .i64 (EntV s g), .int .i64 (askE s g)]) ∧ Grow w w') := by
  refine enter_pure (args := [.agg #[.slice s.Ar s.rooms.length s.cr, .slice s.Ag s.gates.length s.cg, .slice s.As s.staff.length s.cs], .int .i64 g]) [] Try.func13 rfl (by rw [Try.ntmps13]; simp) (by simp) ?_
  refine cj_seq (cj_region ?_)
  refine oj_box rfl rfl rfl (fun b2 => ?_)
  refine oj_step (y_assign rfl) rfl rfl rfl ?_
  refine oj_step (y_assign rfl) rfl rfl rfl ?_
  refine oj_nil ?_
  refine ej_th (cj_seq (cj_region ?_))
  refine oj_step (y_loadN Try.isAgg26 Try.sizeOf26 rfl) rfl rfl rfl ?_
  refine oj_step (y_move rfl) rfl rfl rfl ?_
  refine oj_step (y_call Try.call42 rfl (fun w hp => k_asked s g w (hs.mono hp.below))) rfl rfl rfl ?_
  refine oj_step (y_move rfl) rfl rfl rfl ?_
  refine oj_step (y_extract rfl rfl) rfl rfl rfl ?_
  refine oj_step (y_extract rfl rfl) rfl rfl rfl ?_
  refine oj_alloc Try.zeroValue76 rfl rfl (fun b6 => ?_)
  refine oj_store rfl rfl rfl rfl Try.sizeOf76 rfl ?_
  refine oj_step (y_assign rfl) rfl rfl rfl ?_
  refine oj_nil ?_
  refine ej_th (cj_seq (cj_seq ?_))
  refine cj_regionG (gj_step (y_move rfl) rfl rfl rfl (gj_step (y_neq rfl rfl) rfl rfl rfl (gj_nil ?_)))
  refine ej_th ?_
  refine cj_cond rfl (fun h15 => ?_) (fun h15 => ?_)
  · have h15b := h15
    try simp only [sxb] at h15
    refine cj_seq ?_
    refine cj_regionG (gj_step (y_move rfl) rfl rfl rfl (gj_step (y_assign rfl) rfl rfl rfl (gj_step (y_assign rfl) rfl rfl rfl (gj_nil ?_))))
    refine ej_th (cj_ret (ej_then_ret ?_))
    refine ej_ret2 rfl Try.results13 rfl rfl (fun w' hp => ⟨?_, hp.below⟩)
    rw [EntV, if_neg h15]
  · have h15b := h15
    try simp only [sxb] at h15
    have h0 : askE s g = 0 := by simpa using h15
    obtain ⟨e2, e3, hb, hg0, hgl, hm64⟩ := ask_0 h0
    rw [e2, e3]
    obtain ⟨m, hm⟩ : ∃ m : Nat, g = m := ⟨g.toNat, by omega⟩
    subst hm
    rw [Int.toNat_natCast] at hm64 hgl
    refine cj_skip (ej_th (cj_seq ?_))
    refine cj_regionG ?_
    refine gj_step (y_loadN Try.isAgg76 Try.sizeOf76 rfl) rfl rfl rfl (?_)
    refine gj_step (y_call Try.call43 rfl (fun w hp => k_reach s m w (hs.mono hp.below) hb hm64)) rfl rfl rfl ?_
    refine gj_step (y_assign rfl) rfl rfl rfl (gj_step (y_assign rfl) rfl rfl rfl (?_))
    refine gj_nil ?_
    refine ej_th (cj_ret ?_)
    refine ej_ret2 rfl Try.results13 rfl rfl (fun w' hp => ⟨?_, hp.below⟩)
    rw [EntV, if_pos h0, h0]; rfl

theorem k_cl1 (s : StrV) (n r bt br : Nat) (g : GateV) (w : World) (hs : StrRd w s) (hb : strB s.s = true) (hn : n < 64) (hr : r < 2 ^ s.rooms.length) (hg : g ∈ s.gates) (hbt : (ownB bt (cellsB 76 [.slice s.Ar s.rooms.length s.cr, .slice s.Ag s.gates.length s.cg, .slice s.As s.staff.length s.cs, .int .i64 (n : Nat)])).P w) (hbr : (ownB br (cellsB 3 [.int .i64 (r : Nat)])).P w) : Calls Try.prog 53 #[.agg #[.int .i64 g.a, .int .i64 g.b, .int .i64 g.need, .slice g.A g.ways.length g.c], .pointer (some ⟨bt, 0, none⟩), .pointer (some ⟨br, 0, none⟩)] w (fun e w' => e = .returned (.bool (leadN s.s n r g.n)) ∧ Grow w w') := by
  refine enter_pure (args := [.agg #[.int .i64 g.a, .int .i64 g.b, .int .i64 g.need, .slice g.A g.ways.length g.c], .pointer (some ⟨bt, 0, none⟩), .pointer (some ⟨br, 0, none⟩)]) [ownB bt (cellsB 76 [.slice s.Ar s.rooms.length s.cr, .slice s.Ag s.gates.length s.cg, .slice s.As s.staff.length s.cs, .int .i64 (n : Nat)]), ownB br (cellsB 3 [.int .i64 (r : Nat)])] Try.func53 rfl (by rw [Try.ntmps53]; simp) (fun f hf => by
    simp only [List.mem_cons, List.mem_nil_iff, or_false] at hf
    rcases hf with rfl | rfl
    · exact ⟨hbt, fun i hi => by have : i = bt := hi; subst this; exact (Array.getElem?_eq_some_iff.1 hbt).1⟩
    · exact ⟨hbr, fun i hi => by have : i = br := hi; subst this; exact (Array.getElem?_eq_some_iff.1 hbr).1⟩) ?_
  refine cj_seq (cj_region ?_)
  refine oj_box rfl rfl rfl (fun b3 => ?_)
  refine oj_step (y_assign rfl) rfl rfl rfl ?_
  refine oj_nil ?_
  refine ej_th (cj_seq ?_)
  refine cj_regionG ?_
  refine gj_step (y_loadSN Try.isAgg76 Try.sizeOf76 rfl) rfl rfl rfl (gj_step (y_loadN Try.isAgg69 Try.sizeOf69 rfl) rfl rfl rfl (gj_step (y_loadS1 Try.isAgg3 rfl rfl) rfl rfl rfl (?_)))
  refine gj_step (y_call Try.call54 rfl (fun w hp => k_new s n r g w (hs.mono hp.below) hb hn hr hg)) rfl rfl rfl ?_
  refine gj_step (y_move rfl) rfl rfl rfl (gj_step (y_extract rfl rfl) rfl rfl rfl (gj_step (y_extract rfl rfl) rfl rfl rfl (gj_step (y_assign rfl) rfl rfl rfl (gj_step (y_assign rfl) rfl rfl rfl (?_)))))
  refine gj_nil ?_
  refine ej_th (cj_seq ?_)
  refine cj_regionG (gj_step (y_move rfl) rfl rfl rfl (gj_step (y_assign rfl) rfl rfl rfl (gj_nil ?_)))
  refine ej_th (cj_ret ?_)
  exact ej_ret1 rfl Try.results53 rfl (fun w' hp => ⟨rfl, hp.below⟩)

theorem k_Closed (s : StrV) (g r : Int) (w : World) (hs : StrRd w s) : Calls Try.prog 17 #[.agg #[.slice s.Ar s.rooms.length s.cr, .slice s.Ag s.gates.length s.cg, .slice s.As s.staff.length s.cs], .int .i64 g, .int .i64 r] w (fun e w' => e = .returned (.tuple #[.bool (clsV s g r), .int .i64 (clsE s g r)]) ∧ Grow w w') := by
  refine enter_pure (args := [.agg #[.slice s.Ar s.rooms.length s.cr, .slice s.Ag s.gates.length s.cg, .slice s.As s.staff.length s.cs], .int .i64 g, .int .i64 r]) [sl (fun b => b < w.heap.size) 3 encRo s.Ar s.rooms, sl (fun b => b < w.heap.size) 4 encGa s.Ag s.gates, sl (fun b => b < w.heap.size) 1 enInt s.As s.staff] Try.func17 rfl (by rw [Try.ntmps17]; simp) (fun g hg => by simp at hg; rcases hg with rfl | rfl | rfl; exact ⟨hs.rooms, fun _ h => h⟩; exact ⟨hs.gates, fun _ h => h⟩; exact ⟨hs.staff, fun _ h => h⟩) ?_
  refine cj_seq (cj_region ?_)
  refine oj_box rfl rfl rfl (fun b3 => ?_)
  refine oj_box rfl rfl rfl (fun b5 => ?_)
  refine oj_step (y_assign rfl) rfl rfl rfl ?_
  refine oj_step (y_assign rfl) rfl rfl rfl ?_
  refine oj_nil ?_
  refine ej_th (cj_seq (cj_region ?_))
  refine oj_step (y_loadN Try.isAgg26 Try.sizeOf26 rfl) rfl rfl rfl ?_
  refine oj_step (y_move rfl) rfl rfl rfl ?_
  refine oj_step (y_call Try.call42 rfl (fun w hp => k_asked s g w (hs.mono hp.below))) rfl rfl rfl ?_
  refine oj_step (y_move rfl) rfl rfl rfl ?_
  refine oj_step (y_extract rfl rfl) rfl rfl rfl ?_
  refine oj_step (y_extract rfl rfl) rfl rfl rfl ?_
  refine oj_alloc Try.zeroValue76 rfl rfl (fun b8 => ?_)
  refine oj_store rfl rfl rfl rfl Try.sizeOf76 rfl ?_
  refine oj_step (y_assign rfl) rfl rfl rfl ?_
  refine oj_nil ?_
  refine ej_th (cj_seq (cj_seq ?_))
  refine cj_regionG (gj_step (y_move rfl) rfl rfl rfl (gj_step (y_neq rfl rfl) rfl rfl rfl (gj_nil ?_)))
  refine ej_th ?_
  refine cj_cond rfl (fun h18 => ?_) (fun h18 => ?_)
  · have h18b := h18
    try simp only [sxb] at h18
    refine cj_seq ?_
    refine cj_regionG (gj_step (y_move rfl) rfl rfl rfl (gj_step (y_assign rfl) rfl rfl rfl (gj_step (y_assign rfl) rfl rfl rfl (gj_nil ?_))))
    refine ej_th (cj_ret (ej_then_ret ?_))
    refine ej_ret2 rfl Try.results17 rfl rfl (fun w' hp => ⟨?_, hp.below⟩)
    have hE : clsE s g r = askE s g := by unfold clsE; rw [if_neg h18]
    rw [clsV, hE, if_neg h18]
  · have h18b := h18
    try simp only [sxb] at h18
    have h0 : askE s g = 0 := by simpa using h18
    obtain ⟨e2, e3, hb, hg0, hgl, hm64⟩ := ask_0 h0
    have hok := StrOk.of hb
    have hnr := hok.nr
    have hng := hok.ng
    have hns := hok.ns
    rw [e2, e3]
    obtain ⟨m, hm⟩ : ∃ m : Nat, g = m := ⟨g.toNat, by omega⟩
    subst hm
    rw [Int.toNat_natCast] at hm64 hgl
    refine cj_skip (ej_th (cj_seq (cj_seq ?_)))
    refine cj_regionG ?_
    refine gj_step (y_load1 Try.isAgg3 rfl rfl) rfl rfl rfl (gj_step (y_fa0 fa26_0 rfl) rfl rfl rfl (gj_step (y_load1 Try.isAgg22 rfl rfl) rfl rfl rfl (gj_step (y_lenA Try.underlying22 rfl) rfl rfl rfl (?_))))
    refine gj_step (y_call Try.call47 rfl (fun w hp => k_set r s.rooms.length w (by omega))) rfl rfl rfl ?_
    refine gj_step (y_not rfl) rfl rfl rfl (?_)
    refine gj_nil ?_
    refine ej_th ?_
    refine cj_cond rfl (fun h25 => ?_) (fun h25 => ?_)
    · have h25b := h25
      try simp only [sxb] at h25
      have hE : clsE s m r = 7 := by unfold clsE; rw [h0, if_pos rfl, not_t h25b]; rfl
      refine cj_seq ?_
      refine cj_regionG (gj_step (y_assign rfl) rfl rfl rfl (gj_step (y_assign rfl) rfl rfl rfl (gj_nil ?_)))
      refine ej_th (cj_ret (ej_then_ret ?_))
      refine ej_ret2 rfl Try.results17 rfl rfl (fun w' hp => ⟨?_, hp.below⟩)
      rw [clsV, hE, if_neg (by decide)]
    · have h25b := h25
      try simp only [sxb] at h25
      have hE : clsE s m r = 0 := by unfold clsE; rw [h0, if_pos rfl, not_f h25b]; rfl
      have hr2 := btw_t.1 (not_f h25b)
      have hp6 := pow_le64 hnr.2
      obtain ⟨q, hq⟩ : ∃ q : Nat, r = q := ⟨r.toNat, by omega⟩
      subst hq
      refine cj_skip (ej_th (cj_seq ?_))
      refine cj_regionG ?_
      refine gj_step (y_fa fa26_1 rfl) rfl rfl rfl (gj_step (y_load1 Try.isAgg23 rfl rfl) rfl rfl rfl (gj_step (y_makeFunc rfl rfl) rfl rfl rfl (?_)))
      refine gj_step (y_call Try.call50 rfl (fun w hp => k_ContG s.gates s.Ag s.cg 53 #[.pointer (some ⟨b8, 0, none⟩), .pointer (some ⟨b5, 0, none⟩)] (fun g => leadN s.s m q g.n) w hp.rd Try.call53 (fun x hx w1 hg => k_cl1 s m q b8 b5 x w1 ((hs.mono hp.below).mono hg) hb hm64 (by omega) hx ((hp.grow hg).own1) ((hp.grow hg).own1)))) rfl rfl rfl ?_
      refine gj_step (y_assign rfl) rfl rfl rfl (?_)
      refine gj_nil ?_
      refine ej_th (cj_seq ?_)
      refine cj_regionG ?_
      refine gj_step (y_load1 Try.isAgg3 rfl rfl) rfl rfl rfl (?_)
      refine gj_step (y_call Try.call55 rfl (fun w hp => k_has q 1 w (by omega) (by omega))) rfl rfl rfl ?_
      refine gj_step (y_move rfl) rfl rfl rfl (?_)
      refine gj_g 2 32 34 rfl rfl rfl rfl (fun hg32 => gj_yes rfl rfl rfl (y_move rfl) rfl rfl (gj_yes rfl rfl rfl (y_not rfl) rfl rfl (gj_nil rfl))) ?_
      refine gj_step (y_and rfl rfl rfl) rfl rfl rfl (gj_step (y_assign rfl) rfl rfl rfl (gj_step (y_assign rfl) rfl rfl rfl (?_)))
      refine gj_nil ?_
      refine ej_th (cj_ret ?_)
      refine ej_ret2 rfl Try.results17 rfl rfl (fun w' hp => ⟨?_, hp.below⟩)
      rw [clsV, hE, if_pos rfl, closedN, any_leads, Int.toNat_natCast, Int.toNat_natCast, ← hasN_bit]

end Go.Proofs.Ytomidcehahdmbaa
namespace Go.Proofs.Ytomidcehahdmbaa
open Go.Sx Go.RowKit Vm
set_option maxRecDepth 20000
theorem k_BitI (n : Nat) (k : Int) (w : World) (hk : 0 ≤ k ∧ k ≤ 64) : Calls Try.prog 29 #[.int .i64 (n : Nat), .int .i64 k] w (fun e w' => e = .returned (.bool (n.testBit k.toNat)) ∧ Grow w w') := by
  have h := k_Bit n k.toNat w (by omega)
  rwa [Int.toNat_of_nonneg hk.1] at h

theorem k_people (n : Nat) (w : World) (hn : n < 64) : Calls Try.prog 78 #[.int .i64 (n : Nat)] w (fun e w' => e = .returned (.int .i64 (popc n : Nat)) ∧ Grow w w') := by
  refine enter_pure (args := [.int .i64 (n : Nat)]) [] Try.func78 rfl (by rw [Try.ntmps78]; simp) (by simp) ?_
  refine cj_seq ?_
  refine cj_regionG (gj_step (y_assign rfl) rfl rfl rfl (gj_nil ?_))
  refine ej_th (cj_seq ?_)
  refine cj_regionG (gj_step (y_assign rfl) rfl rfl rfl (gj_nil ?_))
  refine ej_th (cj_seq (cj_seq ?_))
  refine cj_regionG (gj_step (y_assign rfl) rfl rfl rfl (gj_nil ?_))
  refine ej_th (cj_block ?_)
  refine cj_lpic (X := Nat × Nat) [(0, _), (2, _)] (fun ⟨k, c⟩ => k ≤ 6 ∧ c = (List.range k).countP (fun i => n.testBit i) ∧ c ≤ k) (fun ⟨k, c⟩ => [(3, .int .i64 (c : Nat)), (4, .int .i64 (k : Nat))]) (fun ⟨k, c⟩ => 6 - k) (0, 0) (⟨by omega, rfl, by omega⟩) ⟨rfl, rfl, rfl, rfl, trivial⟩ ?_
  rintro ⟨k, c⟩ ⟨hk, hc, hck⟩
  dsimp only [List.cons_append, List.nil_append]
  refine cj_seq (cj_seq ?_)
  refine cj_regionG (gj_step (y_move rfl) rfl rfl rfl (gj_step (y_lss rfl rfl) rfl rfl rfl (gj_nil ?_)))
  refine ej_th ?_
  refine cj_cond rfl (fun h6 => ?_) (fun h6 => ?_)
  · have h6b := h6
    try simp only [sxb] at h6
    refine cj_skip (ej_th (cj_seq (cj_block (cj_seq ?_))))
    refine cj_regionG ?_
    refine gj_step (y_move rfl) rfl rfl rfl (gj_step (y_move rfl) rfl rfl rfl (?_))
    refine gj_step (y_call Try.call29 rfl (fun w hp => k_Bit n k w (by omega))) rfl rfl rfl ?_
    refine gj_nil ?_
    refine ej_th ?_
    refine cj_cond rfl (fun h11 => ?_) (fun h11 => ?_)
    · have h11b := h11
      try simp only [sxb] at h11
      have hcs := cnt_step (fun i => n.testBit i) k
      rw [if_pos h11b, ← hc] at hcs
      refine cj_regionG (gj_step (y_move rfl) rfl rfl rfl (gj_step (y_add rfl rfl (by omega)) rfl rfl rfl (gj_step (y_assign rfl) rfl rfl rfl (gj_nil ?_))))
      refine ej_blk (ej_th ?_)
      refine cj_regionG (gj_step (y_move rfl) rfl rfl rfl (gj_step (y_add rfl rfl (by omega)) rfl rfl rfl (gj_step (y_assign rfl) rfl rfl rfl (gj_nil ?_))))
      exact ej_nx (k + 1, c + 1) (by first | omega | (simp only; omega)) ⟨by first | omega | (simp only; omega), hcs.symm, by first | omega | (simp only; omega)⟩ ⟨rfl, rfl, rfl, rfl, trivial⟩
    · have h11b := h11
      try simp only [sxb] at h11
      have hcs := cnt_step (fun i => n.testBit i) k
      rw [if_neg (by rw [h11b]; simp), ← hc] at hcs
      refine cj_skip (ej_blk (ej_th ?_))
      refine cj_regionG (gj_step (y_move rfl) rfl rfl rfl (gj_step (y_add rfl rfl (by omega)) rfl rfl rfl (gj_step (y_assign rfl) rfl rfl rfl (gj_nil ?_))))
      exact ej_nx (k + 1, c) (by first | omega | (simp only; omega)) ⟨by first | omega | (simp only; omega), hcs.symm, by first | omega | (simp only; omega)⟩ ⟨rfl, rfl, rfl, rfl, trivial⟩
  · have h6b := h6
    try simp only [sxb] at h6
    refine cj_exit (ej_then_exit (ej_then_exit (ej_blk_hit (ej_th (cj_seq ?_)))))
    refine cj_regionG (gj_step (y_move rfl) rfl rfl rfl (gj_step (y_assign rfl) rfl rfl rfl (gj_nil ?_)))
    refine ej_th (cj_ret ?_)
    refine ej_ret1 rfl Try.results78 rfl (fun w' hp => ⟨?_, hp.below⟩)
    have hk6 : k = 6 := by omega
    rw [popc_6 hn, hc, hk6]

theorem k_rHas (a b : Nat) (w : World) (hb : b < 256) : Calls Try.prog 80 #[.int .i64 (a : Nat), .int .i64 (b : Nat)] w (fun e w' => e = .returned (.bool (hasN a b)) ∧ Grow w w') := by
  refine enter_pure (args := [.int .i64 (a : Nat), .int .i64 (b : Nat)]) [] Try.func80 rfl (by rw [Try.ntmps80]; simp) (by simp) ?_
  refine cj_seq ?_
  refine cj_regionG (gj_step (y_assign rfl) rfl rfl rfl (gj_nil ?_))
  refine ej_th (cj_seq (cj_seq ?_))
  refine cj_regionG (gj_step (y_assign rfl) rfl rfl rfl (gj_nil ?_))
  refine ej_th (cj_block ?_)
  refine cj_lpic (X := Nat) [(0, _), (1, _)] (fun k => k ≤ 8 ∧ ∀ j, j < k → b.testBit j = true → a.testBit j = true) (fun k => [(5, .int .i64 (k : Nat))]) (fun k => 8 - k) 0 (⟨by omega, fun j h => absurd h (Nat.not_lt_zero _)⟩) ⟨rfl, rfl, rfl, trivial⟩ ?_
  rintro k ⟨hk, hall⟩
  dsimp only [List.cons_append, List.nil_append]
  refine cj_seq (cj_seq ?_)
  refine cj_regionG (gj_step (y_move rfl) rfl rfl rfl (gj_step (y_lss rfl rfl) rfl rfl rfl (gj_nil ?_)))
  refine ej_th ?_
  refine cj_cond rfl (fun h7 => ?_) (fun h7 => ?_)
  · have h7b := h7
    try simp only [sxb] at h7
    refine cj_skip (ej_th (cj_seq (cj_block (cj_seq ?_))))
    refine cj_regionG ?_
    refine gj_step (y_move rfl) rfl rfl rfl (gj_step (y_move rfl) rfl rfl rfl (?_))
    refine gj_step (y_call Try.call29 rfl (fun w hp => k_Bit b k w (by omega))) rfl rfl rfl ?_
    refine gj_step (y_move rfl) rfl rfl rfl (?_)
    refine gj_g 4 13 17 rfl rfl rfl rfl (fun hg13 => gj_yes rfl rfl rfl (y_move rfl) rfl rfl (gj_yes rfl rfl rfl (y_move rfl) rfl rfl (gj_yes rfl rfl rfl (y_call Try.call29 rfl (fun w hp => k_Bit a k w (by omega))) rfl rfl (gj_yes rfl rfl rfl (y_not rfl) rfl rfl (gj_nil rfl))))) ?_
    refine gj_step (y_and rfl rfl rfl) rfl rfl rfl (?_)
    refine gj_nil ?_
    refine ej_th ?_
    refine cj_cond rfl (fun h18 => ?_) (fun h18 => ?_)
    · have h18b := h18
      try simp only [sxb] at h18
      refine cj_seq ?_
      refine cj_regionG (gj_step (y_assign rfl) rfl rfl rfl (gj_nil ?_))
      refine ej_th (cj_ret (ej_blk_ret (ej_then_ret (ej_then_ret (ej_blk_ret (ej_then_ret ?_))))))
      refine ej_ret1 rfl Try.results80 rfl (fun w' hp => ⟨?_, hp.below⟩)
      rw [Bool.and_eq_true] at h18b
      rw [hasN_no h18b.1 (not_t h18b.2)]
    · have h18b := h18
      try simp only [sxb] at h18
      refine cj_skip (ej_blk (ej_th ?_))
      refine cj_regionG (gj_step (y_move rfl) rfl rfl rfl (gj_step (y_add rfl rfl (by omega)) rfl rfl rfl (gj_step (y_assign rfl) rfl rfl rfl (gj_nil ?_))))
      refine ej_nx (k + 1) (by omega) ⟨by omega, fun j hj hbj => ?_⟩ ⟨rfl, rfl, rfl, trivial⟩
      by_cases e : j < k
      · exact hall j e hbj
      · have e2 : j = k := by omega
        subst e2
        rw [hbj, Bool.true_and, Bool.not_eq_false'] at h18b
        exact h18b
  · have h7b := h7
    try simp only [sxb] at h7
    refine cj_exit (ej_then_exit (ej_then_exit (ej_blk_hit (ej_th (cj_seq ?_)))))
    refine cj_regionG (gj_step (y_assign rfl) rfl rfl rfl (gj_nil ?_))
    refine ej_th (cj_ret ?_)
    refine ej_ret1 rfl Try.results80 rfl (fun w' hp => ⟨?_, hp.below⟩)
    rw [hasN_8 hb (fun j hj => hall j (by omega))]

theorem k_with (a b : Nat) (w : World) (ha : a < 256) (hb : b < 256) : Calls Try.prog 86 #[.int .i64 (a : Nat), .int .i64 (b : Nat)] w (fun e w' => e = .returned (.int .i64 (a ||| b : Nat)) ∧ Grow w w') := by
  refine enter_pure (args := [.int .i64 (a : Nat), .int .i64 (b : Nat)]) [] Try.func86 rfl (by rw [Try.ntmps86]; simp) (by simp) ?_
  refine cj_seq ?_
  refine cj_regionG (gj_step (y_assign rfl) rfl rfl rfl (gj_nil ?_))
  refine ej_th (cj_seq ?_)
  refine cj_regionG (gj_step (y_assign rfl) rfl rfl rfl (gj_nil ?_))
  refine ej_th (cj_seq (cj_seq ?_))
  refine cj_regionG (gj_step (y_assign rfl) rfl rfl rfl (gj_nil ?_))
  refine ej_th (cj_block ?_)
  refine cj_lpic (X := Nat × Nat) [(0, _), (1, _), (4, _)] (fun ⟨k, c⟩ => k ≤ 8 ∧ c = (a ||| b) % 2 ^ k ∧ c ≤ 255) (fun ⟨k, c⟩ => [(5, .int .i64 (c : Nat)), (6, .int .i64 (k : Nat))]) (fun ⟨k, c⟩ => 8 - k) (0, 0) (⟨by omega, (by rw [Nat.pow_zero, Nat.mod_one]), by omega⟩) ⟨rfl, rfl, rfl, rfl, rfl, trivial⟩ ?_
  rintro ⟨k, c⟩ ⟨hk, hc, hc255⟩
  dsimp only [List.cons_append, List.nil_append]
  refine cj_seq (cj_seq ?_)
  refine cj_regionG (gj_step (y_move rfl) rfl rfl rfl (gj_step (y_lss rfl rfl) rfl rfl rfl (gj_nil ?_)))
  refine ej_th ?_
  refine cj_cond rfl (fun h8 => ?_) (fun h8 => ?_)
  · have h8b := h8
    try simp only [sxb] at h8
    have hpk := pow_bd (k := k) (n := 8) (by omega) (by omega)
    have hms := mod_bit (a ||| b) k
    rw [Nat.testBit_or, ← hc] at hms
    refine cj_skip (ej_th (cj_seq (cj_block (cj_seq ?_))))
    refine cj_regionG ?_
    refine gj_step (y_move rfl) rfl rfl rfl (gj_step (y_move rfl) rfl rfl rfl (?_))
    refine gj_step (y_call Try.call29 rfl (fun w hp => k_Bit a k w (by omega))) rfl rfl rfl ?_
    refine gj_step (y_move rfl) rfl rfl rfl (?_)
    refine gj_g 3 14 17 rfl rfl rfl rfl (fun hg14 => gj_yes rfl rfl rfl (y_move rfl) rfl rfl (gj_yes rfl rfl rfl (y_move rfl) rfl rfl (gj_yes rfl rfl rfl (y_call Try.call29 rfl (fun w hp => k_Bit b k w (by omega))) rfl rfl (gj_nil rfl)))) ?_
    refine gj_step (y_or rfl rfl rfl) rfl rfl rfl (?_)
    refine gj_nil ?_
    refine ej_th ?_
    refine cj_cond rfl (fun h18 => ?_) (fun h18 => ?_)
    · have h18b := h18
      try simp only [sxb] at h18
      rw [if_pos h18b] at hms
      refine cj_regionG (gj_step (y_move rfl) rfl rfl rfl (gj_step (y_move rfl) rfl rfl rfl (gj_step (y_shl1 rfl rfl (by omega)) rfl rfl rfl (gj_step (y_add rfl rfl (by omega)) rfl rfl rfl (gj_step (y_assign rfl) rfl rfl rfl (gj_nil ?_))))))
      refine ej_blk (ej_th ?_)
      refine cj_regionG (gj_step (y_move rfl) rfl rfl rfl (gj_step (y_add rfl rfl (by omega)) rfl rfl rfl (gj_step (y_assign rfl) rfl rfl rfl (gj_nil ?_))))
      have hle : c + 2 ^ k ≤ 255 := by
        rw [← hms]
        have h8 := or256 ha hb
        have := Nat.mod_le (a ||| b) (2 ^ (k + 1))
        omega
      exact ej_nx (k + 1, c + 2 ^ k) (by first | omega | (simp only; omega)) ⟨by first | omega | (simp only; omega), hms.symm, hle⟩ ⟨rfl, rfl, rfl, rfl, rfl, trivial⟩
    · have h18b := h18
      try simp only [sxb] at h18
      rw [if_neg (by rw [h18b]; simp)] at hms
      refine cj_skip (ej_blk (ej_th ?_))
      refine cj_regionG (gj_step (y_move rfl) rfl rfl rfl (gj_step (y_add rfl rfl (by omega)) rfl rfl rfl (gj_step (y_assign rfl) rfl rfl rfl (gj_nil ?_))))
      exact ej_nx (k + 1, c) (by first | omega | (simp only; omega)) ⟨by first | omega | (simp only; omega), by rw [hms]; simp, hc255⟩ ⟨rfl, rfl, rfl, rfl, rfl, trivial⟩
  · have h8b := h8
    try simp only [sxb] at h8
    refine cj_exit (ej_then_exit (ej_then_exit (ej_blk_hit (ej_th (cj_seq ?_)))))
    refine cj_regionG (gj_step (y_move rfl) rfl rfl rfl (gj_step (y_assign rfl) rfl rfl rfl (gj_nil ?_)))
    refine ej_th (cj_ret ?_)
    refine ej_ret1 rfl Try.results86 rfl (fun w' hp => ⟨?_, hp.below⟩)
    have hk8 : k = 8 := by omega
    rw [hc, hk8, or_mod ha hb]

theorem k_rkeys (s : StrV) (n r : Nat) (w : World) (hs : StrRd w s) (hok : StrOk s) : Calls Try.prog 89 #[.agg #[.slice s.Ar s.rooms.length s.cr, .slice s.Ag s.gates.length s.cg, .slice s.As s.staff.length s.cs], .int .i64 (n : Nat), .int .i64 (r : Nat)] w (fun e w' => e = .returned (.int .i64 (keysN s.s n r : Nat)) ∧ Grow w w') := by
  have hns := hok.ns
  have hnr := hok.nr
  refine enter_pure (args := [.agg #[.slice s.Ar s.rooms.length s.cr, .slice s.Ag s.gates.length s.cg, .slice s.As s.staff.length s.cs], .int .i64 (n : Nat), .int .i64 (r : Nat)]) [sl (fun b => b < w.heap.size) 3 encRo s.Ar s.rooms, sl (fun b => b < w.heap.size) 4 encGa s.Ag s.gates, sl (fun b => b < w.heap.size) 1 enInt s.As s.staff] Try.func89 rfl (by rw [Try.ntmps89]; simp) (fun g hg => by simp at hg; rcases hg with rfl | rfl | rfl; exact ⟨hs.rooms, fun _ h => h⟩; exact ⟨hs.gates, fun _ h => h⟩; exact ⟨hs.staff, fun _ h => h⟩) ?_
  refine cj_seq (cj_region ?_)
  refine oj_box rfl rfl rfl (fun b3 => ?_)
  refine oj_step (y_assign rfl) rfl rfl rfl ?_
  refine oj_nil ?_
  refine ej_th (cj_seq ?_)
  refine cj_regionG (gj_step (y_assign rfl) rfl rfl rfl (gj_nil ?_))
  refine ej_th (cj_seq (cj_seq ?_))
  refine cj_regionG (gj_step (y_assign rfl) rfl rfl rfl (gj_nil ?_))
  refine ej_th (cj_block ?_)
  refine cj_lpic (X := Nat × Nat) [(1, _), (2, _), (3, _), (6, _)] (fun ⟨k, acc⟩ => k ≤ s.staff.length ∧ acc < 256 ∧ keyF n k (s.staff.drop k) acc = keyF n 0 s.staff 0) (fun ⟨k, acc⟩ => [(7, .int .i64 (acc : Nat)), (8, .int .i64 (k : Nat))]) (fun ⟨k, acc⟩ => s.staff.length - k) (0, 0) (⟨Nat.zero_le _, by omega, rfl⟩) ⟨rfl, rfl, rfl, rfl, rfl, rfl, trivial⟩ ?_
  rintro ⟨k, acc⟩ ⟨hk, hacc, hsk⟩
  dsimp only [List.cons_append, List.nil_append]
  refine cj_seq (cj_seq ?_)
  refine cj_regionG (gj_step (y_move rfl) rfl rfl rfl (gj_step (y_fa fa26_2 rfl) rfl rfl rfl (gj_step (y_load1 Try.isAgg24 rfl rfl) rfl rfl rfl (gj_step (y_lenA Try.underlying24 rfl) rfl rfl rfl (gj_step (y_lss rfl rfl) rfl rfl rfl (gj_nil ?_))))))
  refine ej_th ?_
  refine cj_cond rfl (fun h14 => ?_) (fun h14 => ?_)
  · have h14b := h14
    try simp only [sxb] at h14
    obtain ⟨x, hx⟩ : ∃ x, s.staff[k]? = some x := ⟨_, List.getElem?_eq_getElem (by omega)⟩
    have hxb := hok.staff x (List.mem_of_getElem? hx)
    obtain ⟨m, rfl⟩ : ∃ m : Nat, x = m := ⟨x.toNat, by omega⟩
    rw [keyF_drop n s.staff k acc _ hx, Int.toNat_natCast] at hsk
    refine cj_skip (ej_th (cj_seq (cj_block (cj_seq ?_))))
    refine cj_regionG ?_
    refine gj_step (y_move rfl) rfl rfl rfl (gj_step (y_move rfl) rfl rfl rfl (?_))
    refine gj_step (y_call Try.call29 rfl (fun w hp => k_Bit n k w (by omega))) rfl rfl rfl ?_
    refine gj_nil ?_
    refine ej_th ?_
    refine cj_cond rfl (fun h19 => ?_) (fun h19 => ?_)
    · have h19b := h19
      try simp only [sxb] at h19
      rw [if_pos h19b] at hsk
      refine cj_regionG ?_
      refine gj_step (y_move rfl) rfl rfl rfl (gj_step (y_fa fa26_2 rfl) rfl rfl rfl (gj_step (y_load1 Try.isAgg24 rfl rfl) rfl rfl rfl (gj_step (y_move rfl) rfl rfl rfl (gj_step (y_ixR (reads_sl) Try.underlying24 Try.sizeOf3 rfl rfl (⟨by omega, by omega⟩)) rfl rfl rfl (gj_step (y_ld0 (reads_sl) Try.isAgg3 rfl (hx) rfl) rfl rfl rfl (?_))))))
      refine gj_step (y_call Try.call86 rfl (fun w hp => k_with acc m w hacc (by omega))) rfl rfl rfl ?_
      refine gj_step (y_assign rfl) rfl rfl rfl (?_)
      refine gj_nil ?_
      refine ej_blk (ej_th ?_)
      refine cj_regionG (gj_step (y_move rfl) rfl rfl rfl (gj_step (y_add rfl rfl (by omega)) rfl rfl rfl (gj_step (y_assign rfl) rfl rfl rfl (gj_nil ?_))))
      exact ej_nx (k + 1, acc ||| m) (by first | omega | (simp only; omega)) ⟨by first | omega | (simp only; omega), or256 hacc (by omega), hsk⟩ ⟨rfl, rfl, rfl, rfl, rfl, rfl, trivial⟩
    · have h19b := h19
      try simp only [sxb] at h19
      rw [if_neg (by rw [h19b]; simp)] at hsk
      refine cj_skip (ej_blk (ej_th ?_))
      refine cj_regionG (gj_step (y_move rfl) rfl rfl rfl (gj_step (y_add rfl rfl (by omega)) rfl rfl rfl (gj_step (y_assign rfl) rfl rfl rfl (gj_nil ?_))))
      exact ej_nx (k + 1, acc) (by first | omega | (simp only; omega)) ⟨by first | omega | (simp only; omega), hacc, hsk⟩ ⟨rfl, rfl, rfl, rfl, rfl, rfl, trivial⟩
  · have h14b := h14
    try simp only [sxb] at h14
    rw [List.drop_of_length_le (by omega)] at hsk
    have hsk2 : acc = keyF n 0 s.staff 0 := hsk
    clear hsk
    subst hsk2
    refine cj_exit (ej_then_exit (ej_then_exit (ej_blk_hit (ej_th (cj_seq (cj_seq ?_))))))
    refine cj_regionG (gj_step (y_assign rfl) rfl rfl rfl (gj_nil ?_))
    refine ej_th (cj_block ?_)
    refine cj_lpic (X := Nat × Nat) [(2, _), (3, _), (6, _)] (fun ⟨k, acc⟩ => k ≤ s.rooms.length ∧ acc < 256 ∧ keyF r k ((roomKeys s.s).drop k) acc = keysN s.s n r) (fun ⟨k, acc⟩ => [(7, .int .i64 (acc : Nat)), (9, .int .i64 (k : Nat))]) (fun ⟨k, acc⟩ => s.rooms.length - k) (0, keyF n 0 s.staff 0) (⟨Nat.zero_le _, hacc, rfl⟩) ⟨rfl, rfl, rfl, rfl, rfl, trivial⟩ ?_
    rintro ⟨k, acc⟩ ⟨hk, hacc, hsk⟩
    dsimp only [List.cons_append, List.nil_append]
    refine cj_seq (cj_seq ?_)
    refine cj_regionG (gj_step (y_move rfl) rfl rfl rfl (gj_step (y_fa0 fa26_0 rfl) rfl rfl rfl (gj_step (y_load1 Try.isAgg22 rfl rfl) rfl rfl rfl (gj_step (y_lenA Try.underlying22 rfl) rfl rfl rfl (gj_step (y_lss rfl rfl) rfl rfl rfl (gj_nil ?_))))))
    refine ej_th ?_
    refine cj_cond rfl (fun h31 => ?_) (fun h31 => ?_)
    · have h31b := h31
      try simp only [sxb] at h31
      obtain ⟨rm, hrm⟩ : ∃ rm, s.rooms[k]? = some rm := ⟨_, List.getElem?_eq_getElem (by omega)⟩
      have hrb := (hok.room rm (List.mem_of_getElem? hrm)).2.2
      have hrk : (roomKeys s.s)[k]? = some rm.keys := by unfold roomKeys; rw [List.getElem?_map, hrm]; rfl
      obtain ⟨hd, cl, ky⟩ := rm
      obtain ⟨m, rfl⟩ : ∃ m : Nat, ky = m := ⟨ky.toNat, by simp only at hrb; omega⟩
      simp only at hrb hrk
      rw [keyF_drop r (roomKeys s.s) k acc _ hrk, Int.toNat_natCast] at hsk
      refine cj_skip (ej_th (cj_seq (cj_block (cj_seq ?_))))
      refine cj_regionG ?_
      refine gj_step (y_move rfl) rfl rfl rfl (gj_step (y_move rfl) rfl rfl rfl (?_))
      refine gj_step (y_call Try.call29 rfl (fun w hp => k_Bit r k w (by omega))) rfl rfl rfl ?_
      refine gj_nil ?_
      refine ej_th ?_
      refine cj_cond rfl (fun h36 => ?_) (fun h36 => ?_)
      · have h36b := h36
        try simp only [sxb] at h36
        rw [if_pos h36b] at hsk
        refine cj_regionG ?_
        refine gj_step (y_move rfl) rfl rfl rfl (gj_step (y_fa0 fa26_0 rfl) rfl rfl rfl (gj_step (y_load1 Try.isAgg22 rfl rfl) rfl rfl rfl (gj_step (y_move rfl) rfl rfl rfl (gj_step (y_ixR (reads_sl) Try.underlying22 Try.sizeOf71 rfl rfl (⟨by omega, by omega⟩)) rfl rfl rfl (gj_step (y_faE fa71_2 rfl) rfl rfl rfl (gj_step (y_ld1 (reads_sl) Try.isAgg3 rfl (hrm) rfl) rfl rfl rfl (?_)))))))
        refine gj_step (y_call Try.call86 rfl (fun w hp => k_with acc m w hacc (by omega))) rfl rfl rfl ?_
        refine gj_step (y_assign rfl) rfl rfl rfl (?_)
        refine gj_nil ?_
        refine ej_blk (ej_th ?_)
        refine cj_regionG (gj_step (y_move rfl) rfl rfl rfl (gj_step (y_add rfl rfl (by omega)) rfl rfl rfl (gj_step (y_assign rfl) rfl rfl rfl (gj_nil ?_))))
        exact ej_nx (k + 1, acc ||| m) (by first | omega | (simp only; omega)) ⟨by first | omega | (simp only; omega), or256 hacc (by omega), hsk⟩ ⟨rfl, rfl, rfl, rfl, rfl, trivial⟩
      · have h36b := h36
        try simp only [sxb] at h36
        rw [if_neg (by rw [h36b]; simp)] at hsk
        refine cj_skip (ej_blk (ej_th ?_))
        refine cj_regionG (gj_step (y_move rfl) rfl rfl rfl (gj_step (y_add rfl rfl (by omega)) rfl rfl rfl (gj_step (y_assign rfl) rfl rfl rfl (gj_nil ?_))))
        exact ej_nx (k + 1, acc) (by first | omega | (simp only; omega)) ⟨by first | omega | (simp only; omega), hacc, hsk⟩ ⟨rfl, rfl, rfl, rfl, rfl, trivial⟩
    · have h31b := h31
      try simp only [sxb] at h31
      rw [List.drop_of_length_le (by unfold roomKeys; rw [List.length_map]; show s.rooms.length ≤ k; omega)] at hsk
      have hsk2 : acc = keysN s.s n r := hsk
      clear hsk
      subst hsk2
      refine cj_exit (ej_then_exit (ej_then_exit (ej_blk_hit (ej_th (cj_seq ?_)))))
      refine cj_regionG (gj_step (y_move rfl) rfl rfl rfl (gj_step (y_assign rfl) rfl rfl rfl (gj_nil ?_)))
      refine ej_th (cj_ret ?_)
      exact ej_ret1 rfl Try.results89 rfl (fun w' hp => ⟨rfl, hp.below⟩)

theorem k_ropens (s : StrV) (n r k : Nat) (g : GateV) (w : World) (hs : StrRd w s) (hok : StrOk s) (hn : n < 64) (hgk : s.gates[k]? = some g) : Calls Try.prog 76 #[.agg #[.slice s.Ar s.rooms.length s.cr, .slice s.Ag s.gates.length s.cg, .slice s.As s.staff.length s.cs], .int .i64 (n : Nat), .int .i64 (r : Nat), .int .i64 (k : Nat)] w (fun e w' => e = .returned (.bool (openN s.s n r g.n)) ∧ Grow w w') := by
  have hg := List.mem_of_getElem? hgk
  have hgw0 := hs.ways g hg
  have hkl := (List.getElem?_eq_some_iff.1 hgk).1
  have hng := hok.ng
  have hgo := hok.gate g hg
  obtain ⟨hga, hgb, hgne, hgn, hgl, hgw⟩ := hgo
  refine enter_pure (args := [.agg #[.slice s.Ar s.rooms.length s.cr, .slice s.Ag s.gates.length s.cg, .slice s.As s.staff.length s.cs], .int .i64 (n : Nat), .int .i64 (r : Nat), .int .i64 (k : Nat)]) [sl (fun b => b < w.heap.size) 3 encRo s.Ar s.rooms, sl (fun b => b < w.heap.size) 4 encGa s.Ag s.gates, sl (fun b => b < w.heap.size) 1 enInt s.As s.staff] Try.func76 rfl (by rw [Try.ntmps76]; simp) (fun g hg => by simp at hg; rcases hg with rfl | rfl | rfl; exact ⟨hs.rooms, fun _ h => h⟩; exact ⟨hs.gates, fun _ h => h⟩; exact ⟨hs.staff, fun _ h => h⟩) ?_
  refine cj_seq (cj_region ?_)
  refine oj_box rfl rfl rfl (fun b4 => ?_)
  refine oj_step (y_assign rfl) rfl rfl rfl ?_
  refine oj_nil ?_
  refine ej_th (cj_seq (cj_region ?_))
  refine oj_step (y_fa fa26_1 rfl) rfl rfl rfl ?_
  refine oj_step (y_load1 Try.isAgg23 rfl rfl) rfl rfl rfl ?_
  refine oj_step (y_move rfl) rfl rfl rfl ?_
  refine oj_step (y_ixR (reads_sl) Try.underlying23 Try.sizeOf69 rfl rfl (⟨by omega, by omega⟩)) rfl rfl rfl ?_
  refine oj_step (y_ldW (reads_sl) Try.isAgg69 Try.sizeOf69 rfl (hgk) (fun _ => rfl)) rfl rfl rfl ?_
  refine oj_alloc Try.zeroValue69 rfl rfl (fun b9 => ?_)
  refine oj_store rfl rfl rfl rfl Try.sizeOf69 rfl ?_
  refine oj_nil ?_
  refine ej_th (cj_seq (cj_seq ?_))
  refine cj_draw (by kernel_rfl) (by kernel_rfl) ?_
  refine gj_step (y_move rfl) rfl rfl rfl (?_)
  refine gj_step (y_call Try.call78 rfl (fun w hp => k_people n w hn)) rfl rfl rfl ?_
  refine gj_step (y_fa fa69_2 rfl) rfl rfl rfl (gj_step (y_load1 Try.isAgg3 rfl rfl) rfl rfl rfl (gj_step (y_lss rfl rfl) rfl rfl rfl (?_)))
  refine gj_nil ?_
  refine ej_th ?_
  refine cj_cond rfl (fun h21 => ?_) (fun h21 => ?_)
  · have h21b := h21
    try simp only [sxb] at h21
    refine cj_seq ?_
    refine cj_regionG (gj_step (y_assign rfl) rfl rfl rfl (gj_nil ?_))
    refine ej_th (cj_ret (ej_then_ret ?_))
    refine ej_ret1 rfl Try.results76 rfl (fun w' hp => ⟨?_, hp.below⟩)
    rw [openN, decide_eq_false (show ¬ (g.need ≤ ((popc n : Nat) : Int)) by omega)]; rfl
  · have h21b := h21
    try simp only [sxb] at h21
    refine cj_rd hgw0 (fun _ h => h) ?_
    refine cj_skip (ej_th (cj_seq ?_))
    refine cj_regionG ?_
    refine gj_step (y_loadN Try.isAgg26 Try.sizeOf26 rfl) rfl rfl rfl (gj_step (y_move rfl) rfl rfl rfl (gj_step (y_move rfl) rfl rfl rfl (?_)))
    refine gj_step (y_call Try.call89 rfl (fun w hp => k_rkeys s n r w (hs.mono hp.below) hok)) rfl rfl rfl ?_
    refine gj_step (y_assign rfl) rfl rfl rfl (?_)
    refine gj_nil ?_
    refine ej_th (cj_seq (cj_seq ?_))
    refine cj_regionG (gj_step (y_assign rfl) rfl rfl rfl (gj_nil ?_))
    refine ej_th (cj_block ?_)
    refine cj_lpic (X := Nat) [(9, _), (10, _)] (fun j => j ≤ g.ways.length ∧ (g.ways.drop j).any (fun x => hasN (keysN s.s n r) x.toNat) = g.ways.any (fun x => hasN (keysN s.s n r) x.toNat)) (fun j => [(11, .int .i64 (j : Nat))]) (fun j => g.ways.length - j) 0 (⟨Nat.zero_le _, rfl⟩) ⟨rfl, rfl, rfl, trivial⟩ ?_
    rintro j ⟨hj, hsj⟩
    dsimp only [List.cons_append, List.nil_append]
    refine cj_seq (cj_seq ?_)
    refine cj_regionG (gj_step (y_move rfl) rfl rfl rfl (gj_step (y_fa fa69_3 rfl) rfl rfl rfl (gj_step (y_load1 Try.isAgg24 rfl rfl) rfl rfl rfl (gj_step (y_lenA Try.underlying24 rfl) rfl rfl rfl (gj_step (y_lss rfl rfl) rfl rfl rfl (gj_nil ?_))))))
    refine ej_th ?_
    refine cj_cond rfl (fun h30 => ?_) (fun h30 => ?_)
    · have h30b := h30
      try simp only [sxb] at h30
      obtain ⟨x, hx⟩ : ∃ x, g.ways[j]? = some x := ⟨_, List.getElem?_eq_getElem (by omega)⟩
      have hx2 := hgw x (List.mem_of_getElem? hx)
      rw [any_drop _ g.ways j x hx] at hsj
      obtain ⟨m, rfl⟩ : ∃ m : Nat, x = m := ⟨x.toNat, by omega⟩
      rw [Int.toNat_natCast] at hsj
      refine cj_skip (ej_th (cj_seq (cj_block (cj_seq ?_))))
      refine cj_regionG ?_
      refine gj_step (y_move rfl) rfl rfl rfl (gj_step (y_fa fa69_3 rfl) rfl rfl rfl (gj_step (y_load1 Try.isAgg24 rfl rfl) rfl rfl rfl (gj_step (y_move rfl) rfl rfl rfl (gj_step (y_ixR (reads_sl) Try.underlying24 Try.sizeOf3 rfl rfl (⟨by omega, by omega⟩)) rfl rfl rfl (gj_step (y_ld0 (reads_sl) Try.isAgg3 rfl (hx) rfl) rfl rfl rfl (?_))))))
      refine gj_step (y_call Try.call80 rfl (fun w hp => k_rHas (keysN s.s n r) m w (by omega))) rfl rfl rfl ?_
      refine gj_nil ?_
      refine ej_th ?_
      refine cj_cond rfl (fun h39 => ?_) (fun h39 => ?_)
      · have h39b := h39
        try simp only [sxb] at h39
        refine cj_seq ?_
        refine cj_regionG (gj_step (y_assign rfl) rfl rfl rfl (gj_nil ?_))
        refine ej_th (cj_ret (ej_blk_ret (ej_then_ret (ej_then_ret (ej_blk_ret (ej_then_ret ?_))))))
        refine ej_ret1 rfl Try.results76 rfl (fun w' hp => ⟨?_, hp.below⟩)
        rw [openN, decide_eq_true (show g.need ≤ ((popc n : Nat) : Int) by omega), Bool.true_and]
        show _ = Ending.returned (.bool (g.ways.any fun x => hasN (keysN s.s n r) x.toNat))
        rw [← hsj, h39b]; rfl
      · have h39b := h39
        try simp only [sxb] at h39
        refine cj_skip (ej_blk (ej_th ?_))
        refine cj_regionG (gj_step (y_move rfl) rfl rfl rfl (gj_step (y_add rfl rfl (by omega)) rfl rfl rfl (gj_step (y_assign rfl) rfl rfl rfl (gj_nil ?_))))
        exact ej_nx (j + 1) (by omega) ⟨by omega, by rw [← hsj, h39b]; rfl⟩ ⟨rfl, rfl, rfl, trivial⟩
    · have h30b := h30
      try simp only [sxb] at h30
      refine cj_exit (ej_then_exit (ej_then_exit (ej_blk_hit (ej_th (cj_seq ?_)))))
      refine cj_regionG (gj_step (y_assign rfl) rfl rfl rfl (gj_nil ?_))
      refine ej_th (cj_ret ?_)
      refine ej_ret1 rfl Try.results76 rfl (fun w' hp => ⟨?_, hp.below⟩)
      rw [openN, decide_eq_true (show g.need ≤ ((popc n : Nat) : Int) by omega), Bool.true_and]
      show _ = Ending.returned (.bool (g.ways.any fun x => hasN (keysN s.s n r) x.toNat))
      rw [← hsj, List.drop_of_length_le (by omega)]; rfl

theorem k_rleads (s : StrV) (n r k : Nat) (g : GateV) (w : World) (hs : StrRd w s) (hok : StrOk s) (hn : n < 64) (hgk : s.gates[k]? = some g) : Calls Try.prog 56 #[.agg #[.slice s.Ar s.rooms.length s.cr, .slice s.Ag s.gates.length s.cg, .slice s.As s.staff.length s.cs], .int .i64 (n : Nat), .int .i64 (r : Nat), .int .i64 (k : Nat)] w (fun e w' => e = .returned (.bool (leadN s.s n r g.n)) ∧ Grow w w') := by
  have hg := List.mem_of_getElem? hgk
  have hnr := hok.nr
  have hkl := (List.getElem?_eq_some_iff.1 hgk).1
  have hgo := hok.gate g hg
  obtain ⟨hga, hgb, hgne, hgn, hgl, hgw⟩ := hgo
  refine enter_pure (args := [.agg #[.slice s.Ar s.rooms.length s.cr, .slice s.Ag s.gates.length s.cg, .slice s.As s.staff.length s.cs], .int .i64 (n : Nat), .int .i64 (r : Nat), .int .i64 (k : Nat)]) [sl (fun b => b < w.heap.size) 3 encRo s.Ar s.rooms, sl (fun b => b < w.heap.size) 4 encGa s.Ag s.gates, sl (fun b => b < w.heap.size) 1 enInt s.As s.staff] Try.func56 rfl (by rw [Try.ntmps56]; simp) (fun g hg => by simp at hg; rcases hg with rfl | rfl | rfl; exact ⟨hs.rooms, fun _ h => h⟩; exact ⟨hs.gates, fun _ h => h⟩; exact ⟨hs.staff, fun _ h => h⟩) ?_
  refine cj_seq (cj_region ?_)
  refine oj_box rfl rfl rfl (fun b4 => ?_)
  refine oj_step (y_assign rfl) rfl rfl rfl ?_
  refine oj_nil ?_
  refine ej_th (cj_seq (cj_region ?_))
  refine oj_step (y_fa fa26_1 rfl) rfl rfl rfl ?_
  refine oj_step (y_load1 Try.isAgg23 rfl rfl) rfl rfl rfl ?_
  refine oj_step (y_move rfl) rfl rfl rfl ?_
  refine oj_step (y_ixR (reads_sl) Try.underlying23 Try.sizeOf69 rfl rfl (⟨by omega, by omega⟩)) rfl rfl rfl ?_
  refine oj_step (y_ldW (reads_sl) Try.isAgg69 Try.sizeOf69 rfl (hgk) (fun _ => rfl)) rfl rfl rfl ?_
  refine oj_alloc Try.zeroValue69 rfl rfl (fun b9 => ?_)
  refine oj_store rfl rfl rfl rfl Try.sizeOf69 rfl ?_
  refine oj_nil ?_
  refine ej_th (cj_seq ?_)
  refine cj_draw (by kernel_rfl) (by kernel_rfl) ?_
  refine gj_step (y_move rfl) rfl rfl rfl (gj_step (y_fa0 fa69_0 rfl) rfl rfl rfl (gj_step (y_load1 Try.isAgg3 rfl rfl) rfl rfl rfl (?_)))
  refine gj_step (y_call Try.call29 rfl (fun w hp => k_BitI r g.a w (by omega))) rfl rfl rfl ?_
  refine gj_step (y_move rfl) rfl rfl rfl (gj_step (y_fa fa69_1 rfl) rfl rfl rfl (gj_step (y_load1 Try.isAgg3 rfl rfl) rfl rfl rfl (?_)))
  refine gj_step (y_call Try.call29 rfl (fun w hp => k_BitI r g.b w (by omega))) rfl rfl rfl ?_
  refine gj_step (y_neqB Try.underlying4 rfl rfl) rfl rfl rfl (gj_step (y_move rfl) rfl rfl rfl (?_))
  refine gj_g 5 24 29 rfl rfl rfl rfl (fun hg24 => gj_yes rfl rfl rfl (y_loadN Try.isAgg26 Try.sizeOf26 rfl) rfl rfl (gj_yes rfl rfl rfl (y_move rfl) rfl rfl (gj_yes rfl rfl rfl (y_move rfl) rfl rfl (gj_yes rfl rfl rfl (y_move rfl) rfl rfl (gj_yes rfl rfl rfl (y_call Try.call76 rfl (fun w hp => k_ropens s n r k g w (hs.mono hp.below) hok hn hgk)) rfl rfl (gj_nil rfl)))))) ?_
  refine gj_step (y_and rfl rfl rfl) rfl rfl rfl (gj_step (y_assign rfl) rfl rfl rfl (?_))
  refine gj_nil ?_
  refine ej_th (cj_ret ?_)
  exact ej_ret1 rfl Try.results56 rfl (fun w' hp => ⟨rfl, hp.below⟩)

theorem k_both (s : StrV) (r k : Nat) (g : GateV) (w : World) (hs : StrRd w s) (hok : StrOk s) (hr : r < 64) (hgk : s.gates[k]? = some g) : Calls Try.prog 71 #[.agg #[.slice s.Ar s.rooms.length s.cr, .slice s.Ag s.gates.length s.cg, .slice s.As s.staff.length s.cs], .int .i64 (r : Nat), .int .i64 (k : Nat)] w (fun e w' => e = .returned (.int .i64 (nextN r g.n : Nat)) ∧ Grow w w') := by
  have hg := List.mem_of_getElem? hgk
  have hnr := hok.nr
  have hkl := (List.getElem?_eq_some_iff.1 hgk).1
  have hgo := hok.gate g hg
  obtain ⟨hga, hgb, hgne, hgn, hgl, hgw⟩ := hgo
  have hpa : 2 ^ g.a.toNat < 256 := Nat.pow_lt_pow_right (n := 8) (by decide) (by omega)
  have hpb : 2 ^ g.b.toNat < 256 := Nat.pow_lt_pow_right (n := 8) (by decide) (by omega)
  refine enter_pure (args := [.agg #[.slice s.Ar s.rooms.length s.cr, .slice s.Ag s.gates.length s.cg, .slice s.As s.staff.length s.cs], .int .i64 (r : Nat), .int .i64 (k : Nat)]) [sl (fun b => b < w.heap.size) 3 encRo s.Ar s.rooms, sl (fun b => b < w.heap.size) 4 encGa s.Ag s.gates, sl (fun b => b < w.heap.size) 1 enInt s.As s.staff] Try.func71 rfl (by rw [Try.ntmps71]; simp) (fun g hg => by simp at hg; rcases hg with rfl | rfl | rfl; exact ⟨hs.rooms, fun _ h => h⟩; exact ⟨hs.gates, fun _ h => h⟩; exact ⟨hs.staff, fun _ h => h⟩) ?_
  refine cj_seq (cj_region ?_)
  refine oj_box rfl rfl rfl (fun b3 => ?_)
  refine oj_step (y_assign rfl) rfl rfl rfl ?_
  refine oj_nil ?_
  refine ej_th (cj_seq ?_)
  refine cj_draw (by kernel_rfl) (by kernel_rfl) ?_
  refine gj_step (y_move rfl) rfl rfl rfl (gj_step (y_fa fa26_1 rfl) rfl rfl rfl (gj_step (y_load1 Try.isAgg23 rfl rfl) rfl rfl rfl (gj_step (y_move rfl) rfl rfl rfl (gj_step (y_ixR (reads_sl) Try.underlying23 Try.sizeOf69 rfl rfl (⟨by omega, by omega⟩)) rfl rfl rfl (gj_step (y_faE fa69_0 rfl) rfl rfl rfl (gj_step (y_ld1 (reads_sl) Try.isAgg3 rfl (hgk) rfl) rfl rfl rfl (gj_step (y_shl1I rfl rfl (by omega) (by omega)) rfl rfl rfl (gj_step (y_fa fa26_1 rfl) rfl rfl rfl (gj_step (y_load1 Try.isAgg23 rfl rfl) rfl rfl rfl (gj_step (y_move rfl) rfl rfl rfl (gj_step (y_ixR (reads_sl) Try.underlying23 Try.sizeOf69 rfl rfl (⟨by omega, by omega⟩)) rfl rfl rfl (gj_step (y_faE fa69_1 rfl) rfl rfl rfl (gj_step (y_ld1 (reads_sl) Try.isAgg3 rfl (hgk) rfl) rfl rfl rfl (gj_step (y_shl1I rfl rfl (by omega) (by omega)) rfl rfl rfl (?_)))))))))))))))
  refine gj_step (y_call Try.call86 rfl (fun w hp => k_with (2 ^ g.a.toNat) (2 ^ g.b.toNat) w hpa hpb)) rfl rfl rfl ?_
  refine gj_step (y_call Try.call86 rfl (fun w hp => k_with r (2 ^ g.a.toNat ||| 2 ^ g.b.toNat) w (by omega) (or256 hpa hpb))) rfl rfl rfl ?_
  refine gj_step (y_assign rfl) rfl rfl rfl (?_)
  refine gj_nil ?_
  refine ej_th (cj_ret ?_)
  exact ej_ret1 rfl Try.results71 rfl (fun w' hp => ⟨rfl, hp.below⟩)

end Go.Proofs.Ytomidcehahdmbaa
namespace Go.Proofs.Ytomidcehahdmbaa
open Go.Sx Go.RowKit Vm
set_option maxRecDepth 20000
theorem k_rCheck (s : StrV) (w : World) (hs : StrRd w s) : Calls Try.prog 16 #[.agg #[.slice s.Ar s.rooms.length s.cr, .slice s.Ag s.gates.length s.cg, .slice s.As s.staff.length s.cs]] w (fun e w' => e = .returned (.int .i64 (strE s.s)) ∧ Grow w w') := by
  have hlr := hs.rooms.len
  have hlg := hs.gates.len
  have hls := hs.staff.len
  refine enter_pure (args := [.agg #[.slice s.Ar s.rooms.length s.cr, .slice s.Ag s.gates.length s.cg, .slice s.As s.staff.length s.cs]]) [sl (fun b => b < w.heap.size) 3 encRo s.Ar s.rooms, sl (fun b => b < w.heap.size) 4 encGa s.Ag s.gates, sl (fun b => b < w.heap.size) 1 enInt s.As s.staff] Try.func16 rfl (by rw [Try.ntmps16]; simp) (fun g hg => by simp at hg; rcases hg with rfl | rfl | rfl; exact ⟨hs.rooms, fun _ h => h⟩; exact ⟨hs.gates, fun _ h => h⟩; exact ⟨hs.staff, fun _ h => h⟩) ?_
  refine cj_seq (cj_region ?_)
  refine oj_box rfl rfl rfl (fun b1 => ?_)
  refine oj_step (y_assign rfl) rfl rfl rfl ?_
  refine oj_nil ?_
  refine ej_th (cj_seq ?_)
  refine cj_regionG ?_
  refine gj_step (y_fa0 fa26_0 rfl) rfl rfl rfl (gj_step (y_load1 Try.isAgg22 rfl rfl) rfl rfl rfl (gj_step (y_lenA Try.underlying22 rfl) rfl rfl rfl (?_)))
  refine gj_step (y_call Try.call27 rfl (fun w hp => k_From _ _ _ w)) rfl rfl rfl ?_
  refine gj_step (y_move rfl) rfl rfl rfl (?_)
  refine gj_g 4 14 18 rfl rfl rfl rfl (fun hg14 => gj_yes rfl rfl rfl (y_fa fa26_1 rfl) rfl rfl (gj_yes rfl rfl rfl (y_load1 Try.isAgg23 rfl rfl) rfl rfl (gj_yes rfl rfl rfl (y_lenA Try.underlying23 rfl) rfl rfl (gj_yes rfl rfl rfl (y_leq rfl rfl) rfl rfl (gj_nil rfl))))) ?_
  refine gj_step (y_and rfl rfl rfl) rfl rfl rfl (gj_step (y_move rfl) rfl rfl rfl (?_))
  refine gj_g 4 20 24 rfl rfl rfl rfl (fun hg20 => gj_yes rfl rfl rfl (y_fa fa26_2 rfl) rfl rfl (gj_yes rfl rfl rfl (y_load1 Try.isAgg24 rfl rfl) rfl rfl (gj_yes rfl rfl rfl (y_lenA Try.underlying24 rfl) rfl rfl (gj_yes rfl rfl rfl (y_call Try.call27 rfl (fun w hp => k_From _ _ _ w)) rfl rfl (gj_nil rfl))))) ?_
  refine gj_step (y_and rfl rfl rfl) rfl rfl rfl (gj_step (y_assign rfl) rfl rfl rfl (?_))
  refine gj_nil ?_
  refine ej_th (cj_seq (cj_seq ?_))
  refine cj_regionG (gj_step (y_assign rfl) rfl rfl rfl (gj_nil ?_))
  refine ej_th (cj_block ?_)
  refine cj_lpic (X := Nat × Bool) [(1, _), (2, _)] (fun ⟨k, b⟩ => k ≤ s.rooms.length ∧ (b && (s.rooms.drop k).all roomB) = (str1B s && s.rooms.all roomB)) (fun ⟨k, b⟩ => [(3, .bool b), (4, .int .i64 (k : Nat))]) (fun ⟨k, b⟩ => s.rooms.length - k) (0, str1B s) (⟨Nat.zero_le _, rfl⟩) ⟨rfl, rfl, rfl, rfl, trivial⟩ ?_
  rintro ⟨k, b⟩ ⟨hk, hsk⟩
  dsimp only [List.cons_append, List.nil_append]
  refine cj_seq (cj_seq ?_)
  refine cj_regionG (gj_step (y_move rfl) rfl rfl rfl (gj_step (y_fa0 fa26_0 rfl) rfl rfl rfl (gj_step (y_load1 Try.isAgg22 rfl rfl) rfl rfl rfl (gj_step (y_lenA Try.underlying22 rfl) rfl rfl rfl (gj_step (y_lss rfl rfl) rfl rfl rfl (gj_nil ?_))))))
  refine ej_th ?_
  refine cj_cond rfl (fun h30 => ?_) (fun h30 => ?_)
  · have h30b := h30
    try simp only [sxb] at h30
    obtain ⟨r, hr⟩ : ∃ r, s.rooms[k]? = some r := ⟨_, List.getElem?_eq_getElem (by omega)⟩
    rw [all_drop roomB s.rooms k r hr, ← Bool.and_assoc] at hsk
    refine cj_skip (ej_th (cj_seq (cj_block (cj_seq (cj_region ?_)))))
    refine oj_step (y_fa0 fa26_0 rfl) rfl rfl rfl ?_
    refine oj_step (y_load1 Try.isAgg22 rfl rfl) rfl rfl rfl ?_
    refine oj_step (y_move rfl) rfl rfl rfl ?_
    refine oj_step (y_ixR (reads_sl) Try.underlying22 Try.sizeOf71 rfl rfl (⟨by omega, by omega⟩)) rfl rfl rfl ?_
    refine oj_step (y_ldW (reads_sl) Try.isAgg71 Try.sizeOf71 rfl (hr) (fun _ => rfl)) rfl rfl rfl ?_
    refine oj_alloc Try.zeroValue71 rfl rfl (fun b5 => ?_)
    refine oj_store rfl rfl rfl rfl Try.sizeOf71 rfl ?_
    refine oj_nil ?_
    refine ej_th ?_
    refine cj_regionG ?_
    refine gj_step (y_move rfl) rfl rfl rfl (gj_step (y_move rfl) rfl rfl rfl (?_))
    refine gj_g 3 39 42 rfl rfl rfl rfl (fun hg39 => gj_yes rfl rfl rfl (y_fa0 fa71_0 rfl) rfl rfl (gj_yes rfl rfl rfl (y_load1 Try.isAgg3 rfl rfl) rfl rfl (gj_yes rfl rfl rfl (y_call Try.call27 rfl (fun w hp => k_From _ _ _ w)) rfl rfl (gj_nil rfl)))) ?_
    refine gj_step (y_and rfl rfl rfl) rfl rfl rfl (gj_step (y_move rfl) rfl rfl rfl (?_))
    refine gj_g 3 44 47 rfl rfl rfl rfl (fun hg44 => gj_yes rfl rfl rfl (y_fa fa71_1 rfl) rfl rfl (gj_yes rfl rfl rfl (y_load1 Try.isAgg3 rfl rfl) rfl rfl (gj_yes rfl rfl rfl (y_call Try.call27 rfl (fun w hp => k_From _ _ _ w)) rfl rfl (gj_nil rfl)))) ?_
    refine gj_step (y_and rfl rfl rfl) rfl rfl rfl (gj_step (y_move rfl) rfl rfl rfl (?_))
    refine gj_g 3 49 52 rfl rfl rfl rfl (fun hg49 => gj_yes rfl rfl rfl (y_fa fa71_2 rfl) rfl rfl (gj_yes rfl rfl rfl (y_load1 Try.isAgg3 rfl rfl) rfl rfl (gj_yes rfl rfl rfl (y_call Try.call27 rfl (fun w hp => k_From _ _ _ w)) rfl rfl (gj_nil rfl)))) ?_
    refine gj_step (y_and rfl rfl rfl) rfl rfl rfl (gj_step (y_assign rfl) rfl rfl rfl (?_))
    refine gj_nil ?_
    refine ej_blk (ej_th ?_)
    refine cj_regionG (gj_step (y_move rfl) rfl rfl rfl (gj_step (y_add rfl rfl (by omega)) rfl rfl rfl (gj_step (y_assign rfl) rfl rfl rfl (gj_nil ?_))))
    rw [roomR_V]
    exact ej_nx (k + 1, b && roomB r) (by first | omega | (simp only; omega)) ⟨by first | omega | (simp only; omega), hsk⟩ ⟨rfl, rfl, rfl, rfl, trivial⟩
  · have h30b := h30
    try simp only [sxb] at h30
    rw [List.drop_of_length_le (by omega), List.all_nil, Bool.and_true] at hsk
    subst hsk
    refine cj_exit (ej_then_exit (ej_then_exit (ej_blk_hit (ej_th (cj_seq (cj_seq ?_))))))
    refine cj_regionG (gj_step (y_assign rfl) rfl rfl rfl (gj_nil ?_))
    refine ej_th (cj_block ?_)
    refine cj_lpic (X := Nat × Bool) [(1, _), (2, _)] (fun ⟨k, b⟩ => k ≤ s.gates.length ∧ (b && (s.gates.drop k).all (fun g => gateB s.rooms.length g.n)) = ((str1B s && s.rooms.all roomB) && s.gates.all (fun g => gateB s.rooms.length g.n))) (fun ⟨k, b⟩ => [(3, .bool b), (6, .int .i64 (k : Nat))]) (fun ⟨k, b⟩ => s.gates.length - k) (0, str1B s && s.rooms.all roomB) (⟨Nat.zero_le _, rfl⟩) ⟨rfl, rfl, rfl, rfl, trivial⟩ ?_
    rintro ⟨k, b⟩ ⟨hk, hsk⟩
    dsimp only [List.cons_append, List.nil_append]
    refine cj_seq (cj_seq ?_)
    refine cj_regionG (gj_step (y_move rfl) rfl rfl rfl (gj_step (y_fa fa26_1 rfl) rfl rfl rfl (gj_step (y_load1 Try.isAgg23 rfl rfl) rfl rfl rfl (gj_step (y_lenA Try.underlying23 rfl) rfl rfl rfl (gj_step (y_lss rfl rfl) rfl rfl rfl (gj_nil ?_))))))
    refine ej_th ?_
    refine cj_cond rfl (fun h58 => ?_) (fun h58 => ?_)
    · have h58b := h58
      try simp only [sxb] at h58
      obtain ⟨g, hgk⟩ : ∃ g, s.gates[k]? = some g := ⟨_, List.getElem?_eq_getElem (by omega)⟩
      have hg := List.mem_of_getElem? hgk
      have hgw0 := hs.ways g hg
      have hgwl := hgw0.len
      rw [all_drop _ s.gates k g hgk, gate1_eq, ← Bool.and_assoc, ← Bool.and_assoc] at hsk
      refine cj_rd hgw0 (fun _ h => h) ?_
      refine cj_skip (ej_th (cj_seq (cj_block (cj_seq (cj_region ?_)))))
      refine oj_step (y_fa fa26_1 rfl) rfl rfl rfl ?_
      refine oj_step (y_load1 Try.isAgg23 rfl rfl) rfl rfl rfl ?_
      refine oj_step (y_move rfl) rfl rfl rfl ?_
      refine oj_step (y_ixR (reads_sl) Try.underlying23 Try.sizeOf69 rfl rfl (⟨by omega, by omega⟩)) rfl rfl rfl ?_
      refine oj_step (y_ldW (reads_sl) Try.isAgg69 Try.sizeOf69 rfl (hgk) (fun _ => rfl)) rfl rfl rfl ?_
      refine oj_alloc Try.zeroValue69 rfl rfl (fun b7 => ?_)
      refine oj_store rfl rfl rfl rfl Try.sizeOf69 rfl ?_
      refine oj_nil ?_
      refine ej_th (cj_seq ?_)
      refine cj_regionG ?_
      refine gj_step (y_move rfl) rfl rfl rfl (gj_step (y_move rfl) rfl rfl rfl (?_))
      refine gj_g 7 67 74 rfl rfl rfl rfl (fun hg67 => gj_yes rfl rfl rfl (y_fa0 fa69_0 rfl) rfl rfl (gj_yes rfl rfl rfl (y_load1 Try.isAgg3 rfl rfl) rfl rfl (gj_yes rfl rfl rfl (y_fa0 fa26_0 rfl) rfl rfl (gj_yes rfl rfl rfl (y_load1 Try.isAgg22 rfl rfl) rfl rfl (gj_yes rfl rfl rfl (y_lenA Try.underlying22 rfl) rfl rfl (gj_yes rfl rfl rfl (y_sub rfl rfl (by omega)) rfl rfl (gj_yes rfl rfl rfl (y_call Try.call27 rfl (fun w hp => k_From _ _ _ w)) rfl rfl (gj_nil rfl)))))))) ?_
      refine gj_step (y_and rfl rfl rfl) rfl rfl rfl (gj_step (y_move rfl) rfl rfl rfl (?_))
      refine gj_g 7 76 83 rfl rfl rfl rfl (fun hg76 => gj_yes rfl rfl rfl (y_fa fa69_1 rfl) rfl rfl (gj_yes rfl rfl rfl (y_load1 Try.isAgg3 rfl rfl) rfl rfl (gj_yes rfl rfl rfl (y_fa0 fa26_0 rfl) rfl rfl (gj_yes rfl rfl rfl (y_load1 Try.isAgg22 rfl rfl) rfl rfl (gj_yes rfl rfl rfl (y_lenA Try.underlying22 rfl) rfl rfl (gj_yes rfl rfl rfl (y_sub rfl rfl (by omega)) rfl rfl (gj_yes rfl rfl rfl (y_call Try.call27 rfl (fun w hp => k_From _ _ _ w)) rfl rfl (gj_nil rfl)))))))) ?_
      refine gj_step (y_and rfl rfl rfl) rfl rfl rfl (gj_step (y_move rfl) rfl rfl rfl (?_))
      refine gj_g 5 85 90 rfl rfl rfl rfl (fun hg85 => gj_yes rfl rfl rfl (y_fa0 fa69_0 rfl) rfl rfl (gj_yes rfl rfl rfl (y_load1 Try.isAgg3 rfl rfl) rfl rfl (gj_yes rfl rfl rfl (y_fa fa69_1 rfl) rfl rfl (gj_yes rfl rfl rfl (y_load1 Try.isAgg3 rfl rfl) rfl rfl (gj_yes rfl rfl rfl (y_neq rfl rfl) rfl rfl (gj_nil rfl)))))) ?_
      refine gj_step (y_and rfl rfl rfl) rfl rfl rfl (gj_step (y_move rfl) rfl rfl rfl (?_))
      refine gj_g 3 92 95 rfl rfl rfl rfl (fun hg92 => gj_yes rfl rfl rfl (y_fa fa69_2 rfl) rfl rfl (gj_yes rfl rfl rfl (y_load1 Try.isAgg3 rfl rfl) rfl rfl (gj_yes rfl rfl rfl (y_call Try.call27 rfl (fun w hp => k_From _ _ _ w)) rfl rfl (gj_nil rfl)))) ?_
      refine gj_step (y_and rfl rfl rfl) rfl rfl rfl (gj_step (y_move rfl) rfl rfl rfl (?_))
      refine gj_g 4 97 101 rfl rfl rfl rfl (fun hg97 => gj_yes rfl rfl rfl (y_fa fa69_3 rfl) rfl rfl (gj_yes rfl rfl rfl (y_load1 Try.isAgg24 rfl rfl) rfl rfl (gj_yes rfl rfl rfl (y_lenA Try.underlying24 rfl) rfl rfl (gj_yes rfl rfl rfl (y_call Try.call27 rfl (fun w hp => k_From _ _ _ w)) rfl rfl (gj_nil rfl))))) ?_
      refine gj_step (y_and rfl rfl rfl) rfl rfl rfl (gj_step (y_assign rfl) rfl rfl rfl (?_))
      refine gj_nil ?_
      refine ej_th (cj_seq ?_)
      refine cj_regionG (gj_step (y_assign rfl) rfl rfl rfl (gj_nil ?_))
      refine ej_th (cj_block ?_)
      rw [gateR_V]
      refine cj_lpic (X := Nat × Bool) [(6, _), (1, _), (2, _), (7, _)] (fun ⟨j, c⟩ => j ≤ g.ways.length ∧ (c && (g.ways.drop j).all w255) = ((b && gate1B s.rooms.length g) && g.ways.all w255)) (fun ⟨j, c⟩ => [(3, .bool c), (8, .int .i64 (j : Nat))]) (fun ⟨j, c⟩ => g.ways.length - j) (0, b && gate1B s.rooms.length g) (⟨Nat.zero_le _, rfl⟩) ⟨rfl, rfl, rfl, rfl, rfl, rfl, trivial⟩ ?_
      rintro ⟨j, c⟩ ⟨hj, hsj⟩
      dsimp only [List.cons_append, List.nil_append]
      refine cj_seq (cj_seq ?_)
      refine cj_regionG (gj_step (y_move rfl) rfl rfl rfl (gj_step (y_fa fa69_3 rfl) rfl rfl rfl (gj_step (y_load1 Try.isAgg24 rfl rfl) rfl rfl rfl (gj_step (y_lenA Try.underlying24 rfl) rfl rfl rfl (gj_step (y_lss rfl rfl) rfl rfl rfl (gj_nil ?_))))))
      refine ej_th ?_
      refine cj_cond rfl (fun h107 => ?_) (fun h107 => ?_)
      · have h107b := h107
        try simp only [sxb] at h107
        obtain ⟨x, hx⟩ : ∃ x, g.ways[j]? = some x := ⟨_, List.getElem?_eq_getElem (by omega)⟩
        rw [all_drop w255 g.ways j x hx, ← Bool.and_assoc] at hsj
        refine cj_skip (ej_th (cj_seq (cj_block ?_)))
        refine cj_regionG ?_
        refine gj_step (y_move rfl) rfl rfl rfl (gj_step (y_move rfl) rfl rfl rfl (?_))
        refine gj_g 6 111 117 rfl rfl rfl rfl (fun hg111 => gj_yes rfl rfl rfl (y_fa fa69_3 rfl) rfl rfl (gj_yes rfl rfl rfl (y_load1 Try.isAgg24 rfl rfl) rfl rfl (gj_yes rfl rfl rfl (y_move rfl) rfl rfl (gj_yes rfl rfl rfl (y_ixR (reads_sl) Try.underlying24 Try.sizeOf3 rfl rfl (⟨by omega, by omega⟩)) rfl rfl (gj_yes rfl rfl rfl (y_ld0 (reads_sl) Try.isAgg3 rfl (hx) rfl) rfl rfl (gj_yes rfl rfl rfl (y_call Try.call27 rfl (fun w hp => k_From _ _ _ w)) rfl rfl (gj_nil rfl))))))) ?_
        refine gj_step (y_and rfl rfl rfl) rfl rfl rfl (gj_step (y_assign rfl) rfl rfl rfl (?_))
        refine gj_nil ?_
        refine ej_blk (ej_th ?_)
        refine cj_regionG (gj_step (y_move rfl) rfl rfl rfl (gj_step (y_add rfl rfl (by omega)) rfl rfl rfl (gj_step (y_assign rfl) rfl rfl rfl (gj_nil ?_))))
        exact ej_nx (j + 1, c && w255 x) (by first | omega | (simp only; omega)) ⟨by first | omega | (simp only; omega), hsj⟩ ⟨rfl, rfl, rfl, rfl, rfl, rfl, trivial⟩
      · have h107b := h107
        try simp only [sxb] at h107
        rw [List.drop_of_length_le (show g.ways.length ≤ j by omega), List.all_nil, Bool.and_true] at hsj
        rw [show (g.n.ways.all fun n => btw 0 n 255) = g.ways.all w255 from rfl, ← hsj] at hsk
        refine cj_exit (ej_then_exit (ej_then_exit (ej_blk_hit (ej_blk (ej_th ?_)))))
        refine cj_regionG (gj_step (y_move rfl) rfl rfl rfl (gj_step (y_add rfl rfl (by omega)) rfl rfl rfl (gj_step (y_assign rfl) rfl rfl rfl (gj_nil ?_))))
        exact ej_nx (k + 1, c) (by first | omega | (simp only; omega)) ⟨by first | omega | (simp only; omega), hsk⟩ ⟨rfl, rfl, rfl, rfl, trivial⟩
    · have h58b := h58
      try simp only [sxb] at h58
      rw [List.drop_of_length_le (by omega), List.all_nil, Bool.and_true] at hsk
      subst hsk
      refine cj_exit (ej_then_exit (ej_then_exit (ej_blk_hit (ej_th (cj_seq (cj_seq ?_))))))
      refine cj_regionG (gj_step (y_assign rfl) rfl rfl rfl (gj_nil ?_))
      refine ej_th (cj_block ?_)
      refine cj_lpic (X := Nat × Bool) [(1, _), (2, _)] (fun ⟨k, b⟩ => k ≤ s.staff.length ∧ (b && (s.staff.drop k).all w255) = (((str1B s && s.rooms.all roomB) && s.gates.all (fun g => gateB s.rooms.length g.n)) && s.staff.all w255)) (fun ⟨k, b⟩ => [(3, .bool b), (9, .int .i64 (k : Nat))]) (fun ⟨k, b⟩ => s.staff.length - k) (0, (str1B s && s.rooms.all roomB) && s.gates.all (fun g => gateB s.rooms.length g.n)) (⟨Nat.zero_le _, rfl⟩) ⟨rfl, rfl, rfl, rfl, trivial⟩ ?_
      rintro ⟨k, b⟩ ⟨hk, hsk⟩
      dsimp only [List.cons_append, List.nil_append]
      refine cj_seq (cj_seq ?_)
      refine cj_regionG (gj_step (y_move rfl) rfl rfl rfl (gj_step (y_fa fa26_2 rfl) rfl rfl rfl (gj_step (y_load1 Try.isAgg24 rfl rfl) rfl rfl rfl (gj_step (y_lenA Try.underlying24 rfl) rfl rfl rfl (gj_step (y_lss rfl rfl) rfl rfl rfl (gj_nil ?_))))))
      refine ej_th ?_
      refine cj_cond rfl (fun h123 => ?_) (fun h123 => ?_)
      · have h123b := h123
        try simp only [sxb] at h123
        obtain ⟨x, hx⟩ : ∃ x, s.staff[k]? = some x := ⟨_, List.getElem?_eq_getElem (by omega)⟩
        rw [all_drop w255 s.staff k x hx, ← Bool.and_assoc] at hsk
        refine cj_skip (ej_th (cj_seq (cj_block ?_)))
        refine cj_regionG ?_
        refine gj_step (y_move rfl) rfl rfl rfl (gj_step (y_move rfl) rfl rfl rfl (?_))
        refine gj_g 6 127 133 rfl rfl rfl rfl (fun hg127 => gj_yes rfl rfl rfl (y_fa fa26_2 rfl) rfl rfl (gj_yes rfl rfl rfl (y_load1 Try.isAgg24 rfl rfl) rfl rfl (gj_yes rfl rfl rfl (y_move rfl) rfl rfl (gj_yes rfl rfl rfl (y_ixR (reads_sl) Try.underlying24 Try.sizeOf3 rfl rfl (⟨by omega, by omega⟩)) rfl rfl (gj_yes rfl rfl rfl (y_ld0 (reads_sl) Try.isAgg3 rfl (hx) rfl) rfl rfl (gj_yes rfl rfl rfl (y_call Try.call27 rfl (fun w hp => k_From _ _ _ w)) rfl rfl (gj_nil rfl))))))) ?_
        refine gj_step (y_and rfl rfl rfl) rfl rfl rfl (gj_step (y_assign rfl) rfl rfl rfl (?_))
        refine gj_nil ?_
        refine ej_blk (ej_th ?_)
        refine cj_regionG (gj_step (y_move rfl) rfl rfl rfl (gj_step (y_add rfl rfl (by omega)) rfl rfl rfl (gj_step (y_assign rfl) rfl rfl rfl (gj_nil ?_))))
        exact ej_nx (k + 1, b && w255 x) (by first | omega | (simp only; omega)) ⟨by first | omega | (simp only; omega), hsk⟩ ⟨rfl, rfl, rfl, rfl, trivial⟩
      · have h123b := h123
        try simp only [sxb] at h123
        rw [List.drop_of_length_le (by omega), List.all_nil, Bool.and_true] at hsk
        subst hsk
        refine cj_exit (ej_then_exit (ej_then_exit (ej_blk_hit (ej_th (cj_seq (cj_seq ?_))))))
        refine cj_regionG (gj_step (y_move rfl) rfl rfl rfl (gj_step (y_not rfl) rfl rfl rfl (gj_nil ?_)))
        refine ej_th ?_
        refine cj_cond rfl (fun h136 => ?_) (fun h136 => ?_)
        · have h136b := h136
          try simp only [sxb] at h136
          refine cj_seq ?_
          refine cj_regionG (gj_step (y_assign rfl) rfl rfl rfl (gj_nil ?_))
          refine ej_th (cj_ret (ej_then_ret ?_))
          refine ej_ret1 rfl Try.results16 rfl (fun w' hp => ⟨?_, hp.below⟩)
          rw [str_all, if_neg (by rw [not_t h136b]; simp)]
        · have h136b := h136
          try simp only [sxb] at h136
          refine cj_skip (ej_th (cj_seq ?_))
          refine cj_regionG (gj_step (y_assign rfl) rfl rfl rfl (gj_nil ?_))
          refine ej_th (cj_ret ?_)
          refine ej_ret1 rfl Try.results16 rfl (fun w' hp => ⟨?_, hp.below⟩)
          rw [str_all, if_pos (not_f h136b)]

theorem k_renter (s : StrV) (n : Nat) (w : World) (hs : StrRd w s) (hb : strB s.s = true) (hn : n < 64) : Calls Try.prog 45 #[.agg #[.slice s.Ar s.rooms.length s.cr, .slice s.Ag s.gates.length s.cg, .slice s.As s.staff.length s.cs], .int .i64 (n : Nat)] w (fun e w' => e = .returned (.int .i64 (reachV s.s n : Nat)) ∧ Grow w w') := by
  have hok := StrOk.of hb
  have hnr := hok.nr
  have hng := hok.ng
  have hns := hok.ns
  refine enter_pure (args := [.agg #[.slice s.Ar s.rooms.length s.cr, .slice s.Ag s.gates.length s.cg, .slice s.As s.staff.length s.cs], .int .i64 (n : Nat)]) [sl (fun b => b < w.heap.size) 3 encRo s.Ar s.rooms, sl (fun b => b < w.heap.size) 4 encGa s.Ag s.gates, sl (fun b => b < w.heap.size) 1 enInt s.As s.staff] Try.func45 rfl (by rw [Try.ntmps45]; simp) (fun g hg => by simp at hg; rcases hg with rfl | rfl | rfl; exact ⟨hs.rooms, fun _ h => h⟩; exact ⟨hs.gates, fun _ h => h⟩; exact ⟨hs.staff, fun _ h => h⟩) ?_
  refine cj_seq (cj_region ?_)
  refine oj_box rfl rfl rfl (fun b2 => ?_)
  refine oj_step (y_assign rfl) rfl rfl rfl ?_
  refine oj_nil ?_
  refine ej_th (cj_seq ?_)
  refine cj_regionG (gj_step (y_assign rfl) rfl rfl rfl (gj_nil ?_))
  refine ej_th (cj_seq (cj_seq ?_))
  refine cj_regionG (gj_step (y_assign rfl) rfl rfl rfl (gj_nil ?_))
  refine ej_th (cj_block ?_)
  refine cj_lpic (X := Nat × Nat) [(1, _), (2, _), (4, _)] (fun ⟨r, k⟩ => k ≤ s.gates.length ∧ r < 2 ^ s.rooms.length ∧ reachW s.s n r = reachV s.s n ∧ (s.gates.take k).all (fun g => !leadN s.s n r g.n) = true) (fun ⟨r, k⟩ => [(5, .int .i64 (r : Nat)), (6, .int .i64 (k : Nat))]) (fun ⟨r, k⟩ => (64 - r) * 16 + (s.gates.length - k)) (1, 0) (⟨Nat.zero_le _, one_lt hb, rfl, rfl⟩) ⟨rfl, rfl, rfl, rfl, rfl, trivial⟩ ?_
  rintro ⟨r, k⟩ ⟨hk, hr, hW, hall⟩
  dsimp only [List.cons_append, List.nil_append]
  have hr64 : r < 64 := Nat.lt_of_lt_of_le hr (pow_le64 hnr.2)
  refine cj_seq (cj_seq ?_)
  refine cj_regionG (gj_step (y_move rfl) rfl rfl rfl (gj_step (y_fa fa26_1 rfl) rfl rfl rfl (gj_step (y_load1 Try.isAgg23 rfl rfl) rfl rfl rfl (gj_step (y_lenA Try.underlying23 rfl) rfl rfl rfl (gj_step (y_lss rfl rfl) rfl rfl rfl (gj_nil ?_))))))
  refine ej_th ?_
  refine cj_cond rfl (fun h11 => ?_) (fun h11 => ?_)
  · have h11b := h11
    try simp only [sxb] at h11
    obtain ⟨g, hgk⟩ : ∃ g, s.gates[k]? = some g := ⟨_, List.getElem?_eq_getElem (by omega)⟩
    have hg := List.mem_of_getElem? hgk
    refine cj_skip (ej_th (cj_seq (cj_block (cj_seq ?_))))
    refine cj_regionG ?_
    refine gj_step (y_loadN Try.isAgg26 Try.sizeOf26 rfl) rfl rfl rfl (gj_step (y_move rfl) rfl rfl rfl (gj_step (y_move rfl) rfl rfl rfl (gj_step (y_move rfl) rfl rfl rfl (?_))))
    refine gj_step (y_call Try.call56 rfl (fun w hp => k_rleads s n r k g w (hs.mono hp.below) hok hn hgk)) rfl rfl rfl ?_
    refine gj_nil ?_
    refine ej_th ?_
    refine cj_cond rfl (fun h18 => ?_) (fun h18 => ?_)
    · have h18b := h18
      try simp only [sxb] at h18
      have hlt := next_lt hb hr (List.mem_map.2 ⟨g, hg, rfl⟩)
      have hgt := next_gt h18b
      have hst := reachW_some hb hr (find_step hgk hall h18b)
      have hn64 : nextN r g.n < 64 := Nat.lt_of_lt_of_le hlt (pow_le64 hnr.2)
      refine cj_seq ?_
      refine cj_regionG ?_
      refine gj_step (y_loadN Try.isAgg26 Try.sizeOf26 rfl) rfl rfl rfl (gj_step (y_move rfl) rfl rfl rfl (gj_step (y_move rfl) rfl rfl rfl (?_)))
      refine gj_step (y_call Try.call71 rfl (fun w hp => k_both s r k g w (hs.mono hp.below) hok hr64 hgk)) rfl rfl rfl ?_
      refine gj_step (y_assign rfl) rfl rfl rfl (?_)
      refine gj_nil ?_
      refine ej_th ?_
      refine cj_regionG (gj_step (y_assign rfl) rfl rfl rfl (gj_nil ?_))
      refine ej_blk (ej_th ?_)
      refine cj_regionG (gj_step (y_move rfl) rfl rfl rfl (gj_step (y_add rfl rfl (by omega)) rfl rfl rfl (gj_step (y_assign rfl) rfl rfl rfl (gj_nil ?_))))
      exact ej_nx (nextN r g.n, 0) (by first | omega | (simp only; omega)) ⟨Nat.zero_le _, hlt, by rw [← hst]; exact hW, rfl⟩ ⟨rfl, rfl, rfl, rfl, rfl, trivial⟩
    · have h18b := h18
      try simp only [sxb] at h18
      refine cj_skip (ej_blk (ej_th ?_))
      refine cj_regionG (gj_step (y_move rfl) rfl rfl rfl (gj_step (y_add rfl rfl (by omega)) rfl rfl rfl (gj_step (y_assign rfl) rfl rfl rfl (gj_nil ?_))))
      exact ej_nx (r, k + 1) (by first | omega | (simp only; omega)) ⟨by first | omega | (simp only; omega), hr, hW, take_all hgk hall (by rw [h18b]; rfl)⟩ ⟨rfl, rfl, rfl, rfl, rfl, trivial⟩
  · have h11b := h11
    try simp only [sxb] at h11
    have hfin := reachW_none hb hr (find_stop (by rw [← hall, List.take_of_length_le (by omega)]))
    rw [hW] at hfin
    subst hfin
    refine cj_exit (ej_then_exit (ej_then_exit (ej_blk_hit (ej_th (cj_seq ?_)))))
    refine cj_regionG (gj_step (y_move rfl) rfl rfl rfl (gj_step (y_assign rfl) rfl rfl rfl (gj_nil ?_)))
    refine ej_th (cj_ret ?_)
    exact ej_ret1 rfl Try.results45 rfl (fun w' hp => ⟨rfl, hp.below⟩)

theorem k_rasked (s : StrV) (g : Int) (w : World) (hs : StrRd w s) : Calls Try.prog 44 #[.agg #[.slice s.Ar s.rooms.length s.cr, .slice s.Ag s.gates.length s.cg, .slice s.As s.staff.length s.cs], .int .i64 g] w (fun e w' => e = .returned (.int .i64 (askE s g)) ∧ Grow w w') := by
  refine enter_pure (args := [.agg #[.slice s.Ar s.rooms.length s.cr, .slice s.Ag s.gates.length s.cg, .slice s.As s.staff.length s.cs], .int .i64 g]) [] Try.func44 rfl (by rw [Try.ntmps44]; simp) (by simp) ?_
  refine cj_seq (cj_region ?_)
  refine oj_box rfl rfl rfl (fun b2 => ?_)
  refine oj_step (y_assign rfl) rfl rfl rfl ?_
  refine oj_nil ?_
  refine ej_th (cj_seq (cj_seq ?_))
  refine cj_regionG ?_
  refine gj_step (y_loadN Try.isAgg26 Try.sizeOf26 rfl) rfl rfl rfl (?_)
  refine gj_step (y_call Try.call16 rfl (fun w hp => k_rCheck s w (hs.mono hp.below))) rfl rfl rfl ?_
  refine gj_step (y_assign rfl) rfl rfl rfl (?_)
  refine gj_nil ?_
  refine ej_th (cj_seq ?_)
  refine cj_regionG (gj_step (y_move rfl) rfl rfl rfl (gj_step (y_neq rfl rfl) rfl rfl rfl (gj_nil ?_)))
  refine ej_th ?_
  refine cj_cond rfl (fun h9 => ?_) (fun h9 => ?_)
  · have h9b := h9
    try simp only [sxb] at h9
    have hb := (strE_f h9).1
    have h40 := (strE_f h9).2
    obtain ⟨e1, e2, e3⟩ := ask_40 (g := g) hb
    refine cj_seq ?_
    refine cj_regionG (gj_step (y_move rfl) rfl rfl rfl (gj_step (y_assign rfl) rfl rfl rfl (gj_nil ?_)))
    refine ej_th (cj_ret (ej_then_ret ?_))
    refine ej_ret1 rfl Try.results44 rfl (fun w' hp => ⟨?_, hp.below⟩)
    rw [e1, h40]
  · have h9b := h9
    try simp only [sxb] at h9
    have hb := strE_t (by simpa using h9)
    have hpp := pow_bd (k := s.staff.length) (n := 6) (rooms_le hb).2.2.2.1 (by omega)
    have hpo : 0 < 2 ^ s.staff.length := Nat.two_pow_pos _
    refine cj_skip (ej_th (cj_seq (cj_seq ?_)))
    refine cj_regionG ?_
    refine gj_step (y_move rfl) rfl rfl rfl (gj_step (y_fa fa26_2 rfl) rfl rfl rfl (gj_step (y_load1 Try.isAgg24 rfl rfl) rfl rfl rfl (gj_step (y_lenA Try.underlying24 rfl) rfl rfl rfl (gj_step (y_shl1 rfl rfl (show s.staff.length ≤ 62 from Nat.le_trans (m := 6) (rooms_le hb).2.2.2.1 (by omega))) rfl rfl rfl (gj_step (y_sub rfl rfl (by omega)) rfl rfl rfl (?_))))))
    refine gj_step (y_call Try.call27 rfl (fun w hp => k_From _ _ _ w)) rfl rfl rfl ?_
    refine gj_step (y_not rfl) rfl rfl rfl (?_)
    refine gj_nil ?_
    refine ej_th ?_
    refine cj_cond rfl (fun h18 => ?_) (fun h18 => ?_)
    · have h18b := h18
      try simp only [sxb] at h18
      obtain ⟨e1, e2, e3⟩ := ask_41 hb (not_t h18b)
      refine cj_seq ?_
      refine cj_regionG (gj_step (y_assign rfl) rfl rfl rfl (gj_nil ?_))
      refine ej_th (cj_ret (ej_then_ret ?_))
      refine ej_ret1 rfl Try.results44 rfl (fun w' hp => ⟨?_, hp.below⟩)
      rw [e1]
    · have h18b := h18
      try simp only [sxb] at h18
      have e1 := ask_yes hb (not_f h18b)
      refine cj_skip (ej_th (cj_seq ?_))
      refine cj_regionG (gj_step (y_assign rfl) rfl rfl rfl (gj_nil ?_))
      refine ej_th (cj_ret ?_)
      refine ej_ret1 rfl Try.results44 rfl (fun w' hp => ⟨?_, hp.below⟩)
      rw [e1]

theorem k_rEnter (s : StrV) (g : Int) (w : World) (hs : StrRd w s) : Calls Try.prog 14 #[.agg #[.slice s.Ar s.rooms.length s.cr, .slice s.Ag s.gates.length s.cg, .slice s.As s.staff.length s.cs], .int .i64 g] w (fun e w' => e = .returned (.tuple #[.int .i64 (EntV s g), .int .i64 (askE s g)]) ∧ Grow w w') := by
  refine enter_pure (args := [.agg #[.slice s.Ar s.rooms.length s.cr, .slice s.Ag s.gates.length s.cg, .slice s.As s.staff.length s.cs], .int .i64 g]) [] Try.func14 rfl (by rw [Try.ntmps14]; simp) (by simp) ?_
  refine cj_seq (cj_region ?_)
  refine oj_box rfl rfl rfl (fun b2 => ?_)
  refine oj_step (y_assign rfl) rfl rfl rfl ?_
  refine oj_step (y_assign rfl) rfl rfl rfl ?_
  refine oj_nil ?_
  refine ej_th (cj_seq (cj_seq ?_))
  refine cj_regionG ?_
  refine gj_step (y_loadN Try.isAgg26 Try.sizeOf26 rfl) rfl rfl rfl (gj_step (y_move rfl) rfl rfl rfl (?_))
  refine gj_step (y_call Try.call44 rfl (fun w hp => k_rasked s g w (hs.mono hp.below))) rfl rfl rfl ?_
  refine gj_step (y_assign rfl) rfl rfl rfl (?_)
  refine gj_nil ?_
  refine ej_th (cj_seq ?_)
  refine cj_regionG (gj_step (y_move rfl) rfl rfl rfl (gj_step (y_neq rfl rfl) rfl rfl rfl (gj_nil ?_)))
  refine ej_th ?_
  refine cj_cond rfl (fun h11 => ?_) (fun h11 => ?_)
  · have h11b := h11
    try simp only [sxb] at h11
    refine cj_seq ?_
    refine cj_regionG (gj_step (y_move rfl) rfl rfl rfl (gj_step (y_assign rfl) rfl rfl rfl (gj_step (y_assign rfl) rfl rfl rfl (gj_nil ?_))))
    refine ej_th (cj_ret (ej_then_ret ?_))
    refine ej_ret2 rfl Try.results14 rfl rfl (fun w' hp => ⟨?_, hp.below⟩)
    rw [EntV, if_neg h11]
  · have h11b := h11
    try simp only [sxb] at h11
    have h0 : askE s g = 0 := by simpa using h11
    obtain ⟨e2, e3, hb, hg0, hgl, hm64⟩ := ask_0 h0
    obtain ⟨m, hm⟩ : ∃ m : Nat, g = m := ⟨g.toNat, by omega⟩
    subst hm
    rw [Int.toNat_natCast] at hm64 hgl
    refine cj_skip (ej_th (cj_seq ?_))
    refine cj_regionG ?_
    refine gj_step (y_loadN Try.isAgg26 Try.sizeOf26 rfl) rfl rfl rfl (gj_step (y_move rfl) rfl rfl rfl (?_))
    refine gj_step (y_call Try.call45 rfl (fun w hp => k_renter s m w (hs.mono hp.below) hb hm64)) rfl rfl rfl ?_
    refine gj_step (y_assign rfl) rfl rfl rfl (gj_step (y_assign rfl) rfl rfl rfl (?_))
    refine gj_nil ?_
    refine ej_th (cj_ret ?_)
    refine ej_ret2 rfl Try.results14 rfl rfl (fun w' hp => ⟨?_, hp.below⟩)
    rw [EntV, if_pos h0, h0]; rfl

theorem k_rClosed (s : StrV) (g r : Int) (w : World) (hs : StrRd w s) : Calls Try.prog 18 #[.agg #[.slice s.Ar s.rooms.length s.cr, .slice s.Ag s.gates.length s.cg, .slice s.As s.staff.length s.cs], .int .i64 g, .int .i64 r] w (fun e w' => e = .returned (.tuple #[.bool (clsV s g r), .int .i64 (clsE s g r)]) ∧ Grow w w') := by
  refine enter_pure (args := [.agg #[.slice s.Ar s.rooms.length s.cr, .slice s.Ag s.gates.length s.cg, .slice s.As s.staff.length s.cs], .int .i64 g, .int .i64 r]) [sl (fun b => b < w.heap.size) 3 encRo s.Ar s.rooms, sl (fun b => b < w.heap.size) 4 encGa s.Ag s.gates, sl (fun b => b < w.heap.size) 1 enInt s.As s.staff] Try.func18 rfl (by rw [Try.ntmps18]; simp) (fun g hg => by simp at hg; rcases hg with rfl | rfl | rfl; exact ⟨hs.rooms, fun _ h => h⟩; exact ⟨hs.gates, fun _ h => h⟩; exact ⟨hs.staff, fun _ h => h⟩) ?_
  refine cj_seq (cj_region ?_)
  refine oj_box rfl rfl rfl (fun b3 => ?_)
  refine oj_step (y_assign rfl) rfl rfl rfl ?_
  refine oj_step (y_assign rfl) rfl rfl rfl ?_
  refine oj_nil ?_
  refine ej_th (cj_seq (cj_seq ?_))
  refine cj_regionG ?_
  refine gj_step (y_loadN Try.isAgg26 Try.sizeOf26 rfl) rfl rfl rfl (gj_step (y_move rfl) rfl rfl rfl (?_))
  refine gj_step (y_call Try.call44 rfl (fun w hp => k_rasked s g w (hs.mono hp.below))) rfl rfl rfl ?_
  refine gj_step (y_assign rfl) rfl rfl rfl (?_)
  refine gj_nil ?_
  refine ej_th (cj_seq ?_)
  refine cj_regionG (gj_step (y_move rfl) rfl rfl rfl (gj_step (y_neq rfl rfl) rfl rfl rfl (gj_nil ?_)))
  refine ej_th ?_
  refine cj_cond rfl (fun h15 => ?_) (fun h15 => ?_)
  · have h15b := h15
    try simp only [sxb] at h15
    refine cj_seq ?_
    refine cj_regionG (gj_step (y_move rfl) rfl rfl rfl (gj_step (y_assign rfl) rfl rfl rfl (gj_step (y_assign rfl) rfl rfl rfl (gj_nil ?_))))
    refine ej_th (cj_ret (ej_then_ret ?_))
    refine ej_ret2 rfl Try.results18 rfl rfl (fun w' hp => ⟨?_, hp.below⟩)
    have hE : clsE s g r = askE s g := by unfold clsE; rw [if_neg h15]
    rw [clsV, hE, if_neg h15]
  · have h15b := h15
    try simp only [sxb] at h15
    have h0 : askE s g = 0 := by simpa using h15
    obtain ⟨e2, e3, hb, hg0, hgl, hm64⟩ := ask_0 h0
    have hok := StrOk.of hb
    have hnr := hok.nr
    have hng := hok.ng
    have hns := hok.ns
    have hpp := pow_bd (k := s.rooms.length) (n := 6) (by omega) (by omega)
    have hpo : 0 < 2 ^ s.rooms.length := Nat.two_pow_pos _
    obtain ⟨m, hm⟩ : ∃ m : Nat, g = m := ⟨g.toNat, by omega⟩
    subst hm
    rw [Int.toNat_natCast] at hm64 hgl
    refine cj_skip (ej_th (cj_seq (cj_seq ?_)))
    refine cj_regionG ?_
    refine gj_step (y_move rfl) rfl rfl rfl (gj_step (y_fa0 fa26_0 rfl) rfl rfl rfl (gj_step (y_load1 Try.isAgg22 rfl rfl) rfl rfl rfl (gj_step (y_lenA Try.underlying22 rfl) rfl rfl rfl (gj_step (y_shl1 rfl rfl (by omega)) rfl rfl rfl (gj_step (y_sub rfl rfl (by omega)) rfl rfl rfl (?_))))))
    refine gj_step (y_call Try.call27 rfl (fun w hp => k_From _ _ _ w)) rfl rfl rfl ?_
    refine gj_step (y_not rfl) rfl rfl rfl (?_)
    refine gj_nil ?_
    refine ej_th ?_
    refine cj_cond rfl (fun h24 => ?_) (fun h24 => ?_)
    · have h24b := h24
      try simp only [sxb] at h24
      have hE : clsE s m r = 7 := by unfold clsE; rw [h0, if_pos rfl, not_t h24b]; rfl
      refine cj_seq ?_
      refine cj_regionG (gj_step (y_assign rfl) rfl rfl rfl (gj_step (y_assign rfl) rfl rfl rfl (gj_nil ?_)))
      refine ej_th (cj_ret (ej_then_ret ?_))
      refine ej_ret2 rfl Try.results18 rfl rfl (fun w' hp => ⟨?_, hp.below⟩)
      rw [clsV, hE, if_neg (by decide)]
    · have h24b := h24
      try simp only [sxb] at h24
      have hE : clsE s m r = 0 := by unfold clsE; rw [h0, if_pos rfl, not_f h24b]; rfl
      have hr2 := btw_t.1 (not_f h24b)
      obtain ⟨q, hq⟩ : ∃ q : Nat, r = q := ⟨r.toNat, by omega⟩
      subst hq
      refine cj_skip (ej_th (cj_seq ?_))
      refine cj_regionG ?_
      refine gj_step (y_move rfl) rfl rfl rfl (?_)
      refine gj_step (y_call Try.call29 rfl (fun w hp => k_Bit q 0 w (by omega))) rfl rfl rfl ?_
      refine gj_step (y_assign rfl) rfl rfl rfl (?_)
      refine gj_nil ?_
      refine ej_th (cj_seq (cj_seq ?_))
      refine cj_regionG (gj_step (y_assign rfl) rfl rfl rfl (gj_nil ?_))
      refine ej_th (cj_block ?_)
      refine cj_lpic (X := Nat × Bool) [(1, _), (2, _), (3, _), (6, _), (7, _)] (fun ⟨k, b⟩ => k ≤ s.gates.length ∧ (b && (s.gates.drop k).all (fun x => !leadN s.s m q x.n)) = (q.testBit 0 && s.gates.all (fun x => !leadN s.s m q x.n))) (fun ⟨k, b⟩ => [(9, .bool b), (10, .int .i64 (k : Nat))]) (fun ⟨k, b⟩ => s.gates.length - k) (0, q.testBit 0) (⟨Nat.zero_le _, rfl⟩) ⟨rfl, rfl, rfl, rfl, rfl, rfl, rfl, trivial⟩ ?_
      rintro ⟨k, b⟩ ⟨hk, hsk⟩
      dsimp only [List.cons_append, List.nil_append]
      refine cj_seq (cj_seq ?_)
      refine cj_regionG (gj_step (y_move rfl) rfl rfl rfl (gj_step (y_fa fa26_1 rfl) rfl rfl rfl (gj_step (y_load1 Try.isAgg23 rfl rfl) rfl rfl rfl (gj_step (y_lenA Try.underlying23 rfl) rfl rfl rfl (gj_step (y_lss rfl rfl) rfl rfl rfl (gj_nil ?_))))))
      refine ej_th ?_
      refine cj_cond rfl (fun h31 => ?_) (fun h31 => ?_)
      · have h31b := h31
        try simp only [sxb] at h31
        obtain ⟨x, hxk⟩ : ∃ x, s.gates[k]? = some x := ⟨_, List.getElem?_eq_getElem (by omega)⟩
        rw [all_drop _ s.gates k x hxk, ← Bool.and_assoc] at hsk
        refine cj_skip (ej_th (cj_seq (cj_block ?_)))
        refine cj_regionG ?_
        refine gj_step (y_move rfl) rfl rfl rfl (gj_step (y_move rfl) rfl rfl rfl (?_))
        refine gj_g 6 35 41 rfl rfl rfl rfl (fun hg35 => gj_yes rfl rfl rfl (y_loadN Try.isAgg26 Try.sizeOf26 rfl) rfl rfl (gj_yes rfl rfl rfl (y_move rfl) rfl rfl (gj_yes rfl rfl rfl (y_move rfl) rfl rfl (gj_yes rfl rfl rfl (y_move rfl) rfl rfl (gj_yes rfl rfl rfl (y_call Try.call56 rfl (fun w hp => k_rleads s m q k x w (hs.mono hp.below) hok hm64 hxk)) rfl rfl (gj_yes rfl rfl rfl (y_not rfl) rfl rfl (gj_nil rfl))))))) ?_
        refine gj_step (y_and rfl rfl rfl) rfl rfl rfl (gj_step (y_assign rfl) rfl rfl rfl (?_))
        refine gj_nil ?_
        refine ej_blk (ej_th ?_)
        refine cj_regionG (gj_step (y_move rfl) rfl rfl rfl (gj_step (y_add rfl rfl (by omega)) rfl rfl rfl (gj_step (y_assign rfl) rfl rfl rfl (gj_nil ?_))))
        exact ej_nx (k + 1, b && !leadN s.s m q x.n) (by first | omega | (simp only; omega)) ⟨by first | omega | (simp only; omega), hsk⟩ ⟨rfl, rfl, rfl, rfl, rfl, rfl, rfl, trivial⟩
      · have h31b := h31
        try simp only [sxb] at h31
        rw [List.drop_of_length_le (by omega), List.all_nil, Bool.and_true] at hsk
        subst hsk
        refine cj_exit (ej_then_exit (ej_then_exit (ej_blk_hit (ej_th (cj_seq ?_)))))
        refine cj_regionG (gj_step (y_move rfl) rfl rfl rfl (gj_step (y_assign rfl) rfl rfl rfl (gj_step (y_assign rfl) rfl rfl rfl (gj_nil ?_))))
        refine ej_th (cj_ret ?_)
        refine ej_ret2 rfl Try.results18 rfl rfl (fun w' hp => ⟨?_, hp.below⟩)
        rw [clsV, hE, if_pos rfl, closedN, any_leads, Int.toNat_natCast, Int.toNat_natCast, not_any]

end Go.Proofs.Ytomidcehahdmbaa
namespace Go.Proofs.Ytomidcehahdmbaa
open Go Go.Sx Go.RowKit Vm
abbrev intsL (l : List Nat) : List Int := l.map fun n : Nat => (n : Int)
theorem get_ints {ns : List Nat} {k : Nat} {n : Nat} (h : ns[k]? = some n) : (intsL ns)[k]? = some (n : Int) := by simp [h]
theorem ints_get {ns : List Nat} {k : Nat} {x : Int} (h : (intsL ns)[k]? = some x) : ∃ n : Nat, x = n ∧ ns[k]? = some n := by
  simp only [List.getElem?_map, Option.map_eq_some_iff] at h
  obtain ⟨n, h1, h2⟩ := h
  exact ⟨n, h2.symm, h1⟩
theorem ints_has (l : List Nat) (n : Nat) : (intsL l).contains (n : Int) = l.contains n := by
  rw [Bool.eq_iff_iff, List.contains_iff_mem, List.contains_iff_mem, List.mem_map]
  constructor
  · rintro ⟨m, h1, h2⟩
    have : m = n := by omega
    exact this ▸ h1
  · intro h; exact ⟨n, h, rfl⟩
theorem lt0_V (x : Int) : decide (x < 0) = !decide (0 ≤ x) := by
  by_cases h : x < 0
  · rw [decide_eq_true h, decide_eq_false (by omega)]; rfl
  · rw [decide_eq_false h, decide_eq_true (by omega)]; rfl
theorem rng_t {p : Nat → Bool} {k : Nat} (h : p k = true) : (List.range (k + 1)).filter p = (List.range k).filter p ++ [k] := by
  rw [List.range_succ, List.filter_append]; simp [h]
theorem rng_f {p : Nat → Bool} {k : Nat} (h : p k = false) : (List.range (k + 1)).filter p = (List.range k).filter p := by
  rw [List.range_succ, List.filter_append]; simp [h]
theorem rng_len (p : Nat → Bool) (k : Nat) : ((List.range k).filter p).length ≤ k := by
  have := List.length_filter_le p (List.range k)
  simpa using this
def roomE (s : StrV) (n : Int) : Int := if strB s.s = true then (if btw 0 n (s.rooms.length - 1) = true then 0 else 7) else 40
theorem room_40 {s : StrV} {n : Int} (h : strB s.s = false) : roomE s n = 40 := by unfold roomE; rw [h]; rfl
theorem room_7 {s : StrV} {n : Int} (h : strB s.s = true) (h2 : btw 0 n (s.rooms.length - 1) = false) : roomE s n = 7 := by unfold roomE; rw [h, h2]; rfl
theorem room_0 {s : StrV} {n : Int} (h : strB s.s = true) (h2 : btw 0 n (s.rooms.length - 1) = true) : roomE s n = 0 := by unfold roomE; rw [h, h2]; rfl
theorem room_ok {s : StrV} {n : Int} (h : roomE s n = 0) : strB s.s = true ∧ 0 ≤ n ∧ n < s.rooms.length ∧ n.toNat ≤ 5 := by
  have hb : strB s.s = true := by
    cases hb : strB s.s with
    | true => rfl
    | false => rw [room_40 hb] at h; omega
  have h2 : btw 0 n (s.rooms.length - 1) = true := by
    cases h2 : btw 0 n (s.rooms.length - 1) with
    | true => rfl
    | false => rw [room_7 hb h2] at h; omega
  have h3 := btw_t.1 h2
  have h4 : s.rooms.length ≤ 6 := (rooms_le hb).2.1
  exact ⟨hb, by omega, by omega, by omega⟩
def grpsV (s : StrV) (n : Int) : List Nat := if roomE s n = 0 then groupsV s.s n.toNat else []
def grdsV (s : StrV) (n : Int) : List Nat := if roomE s n = 0 then guardsV s.s n.toNat else []
/-! least sets -/
theorem any_ints (l : List Nat) (a : Nat) : ((intsL l).any fun b : Int => decide (a ≠ b.toNat) && hasN a b.toNat) = !(minB l a) := by
  unfold minB
  rw [Bool.not_not, List.any_map]
  congr 1
theorem ne_V (a y : Nat) : (((a : Nat) : Int) != ((y : Nat) : Int)) = decide (a ≠ y) := by
  rw [Bool.eq_iff_iff, bne_iff_ne, decide_eq_true_iff]
  omega
theorem pickG_mem (l : List Nat) : ∀ (m out : List Nat), (∀ x ∈ out, x ∈ l) → (∀ x ∈ m, x ∈ l) → ∀ x ∈ m.foldl (pickG l) out, x ∈ l
  | [], out, h, _ => h
  | a :: m, out, h, h2 => by
    rw [List.foldl_cons]
    refine pickG_mem l m _ (fun x hx => ?_) (fun x hx => h2 x (List.mem_cons_of_mem _ hx))
    unfold pickG at hx
    split at hx
    · rcases List.mem_append.1 hx with hx | hx
      · exact h x hx
      · rw [List.mem_singleton.1 hx]; exact h2 a (List.mem_cons_self ..)
    · exact h x hx
theorem pickG_len (l : List Nat) : ∀ (m out : List Nat), (m.foldl (pickG l) out).length ≤ out.length + m.length
  | [], out => by simp
  | a :: m, out => by
    rw [List.foldl_cons]
    have h1 := pickG_len l m (pickG l out a)
    have h2 : (pickG l out a).length ≤ out.length + 1 := by
      unfold pickG; split <;> simp
    simp only [List.length_cons]; omega
/-! going up the sizes, step by step -/
def outG (l : List Nat) : Nat → List Nat
  | 0 => []
  | n + 1 => (szG n).foldl (stpG l) (outG l n)
def outH (l : List Nat) (n s : Nat) : List Nat := ((List.range s).filter fun x => popc x == n).foldl (stpG l) (outG l n)
theorem outH_0 (l : List Nat) (n : Nat) : outH l n 0 = outG l n := rfl
theorem outH_end (l : List Nat) (n : Nat) : outH l n 64 = outG l (n + 1) := rfl
theorem outH_s (l : List Nat) (n s : Nat) : outH l n (s + 1) = if popc s = n then stpG l (outH l n s) s else outH l n s := by
  unfold outH
  by_cases h : popc s = n
  · rw [if_pos h, rng_t (by simp [h]), List.foldl_append]; rfl
  · rw [if_neg h, rng_f (by simp [h])]
theorem outG_end (l : List Nat) : outG l 7 = allG.foldl (stpG l) [] := by
  unfold allG
  simp only [outG, List.flatMap_cons, List.flatMap_nil, List.foldl_append, List.append_nil]
theorem stpG_mem {l out : List Nat} {s x : Nat} (h : x ∈ stpG l out s) : x ∈ out ∨ x = s := by
  unfold stpG at h
  split at h
  · rcases List.mem_append.1 h with h | h
    · exact .inl h
    · exact .inr (List.mem_singleton.1 h)
  · exact .inl h
theorem stpG_len (l out : List Nat) (s : Nat) : (stpG l out s).length ≤ out.length + 1 := by
  unfold stpG; split <;> simp
theorem fold_len (l : List Nat) : ∀ (m out : List Nat), (m.foldl (stpG l) out).length ≤ out.length + m.length
  | [], out => by simp
  | a :: m, out => by
    rw [List.foldl_cons]
    have := fold_len l m (stpG l out a)
    have := stpG_len l out a
    simp only [List.length_cons]; omega
theorem fold_lt (l : List Nat) : ∀ (m out : List Nat), (∀ x ∈ out, x < 64) → (∀ x ∈ m, x < 64) → ∀ x ∈ m.foldl (stpG l) out, x < 64
  | [], _, h, _ => h
  | a :: m, out, h, h2 => by
    rw [List.foldl_cons]
    exact fold_lt l m _ (fun x hx => (stpG_mem hx).elim (h x) (fun e => e ▸ h2 a (List.mem_cons_self ..))) (fun x hx => h2 x (List.mem_cons_of_mem _ hx))
theorem outG_lt (l : List Nat) : ∀ (n : Nat), ∀ x ∈ outG l n, x < 64
  | 0 => by simp [outG]
  | n + 1 => fold_lt l _ _ (outG_lt l n) (fun x hx => (mem_szG.1 hx).1)
theorem outH_lt (l : List Nat) (n s : Nat) (hs : s ≤ 64) : ∀ x ∈ outH l n s, x < 64 := fold_lt l _ _ (outG_lt l n) (fun x hx => by
  have := (List.mem_filter.1 hx).1
  rw [List.mem_range] at this; omega)
theorem outG_len (l : List Nat) : ∀ (n : Nat), (outG l n).length ≤ 64 * n
  | 0 => by simp [outG]
  | n + 1 => by
    have h1 := outG_len l n
    have h2 := fold_len l (szG n) (outG l n)
    have h3 : (szG n).length ≤ 64 := rng_len _ 64
    show ((szG n).foldl (stpG l) (outG l n)).length ≤ _
    omega
theorem outH_len (l : List Nat) (n s : Nat) (hs : s ≤ 64) : (outH l n s).length ≤ 64 * n + 64 := by
  have h1 := outG_len l n
  have h2 := fold_len l ((List.range s).filter fun x => popc x == n) (outG l n)
  have h3 := rng_len (fun x => popc x == n) s
  unfold outH; omega
theorem stpG_no {l out : List Nat} {s : Nat} (h : l.contains s = false) : stpG l out s = out := by unfold stpG; rw [h]; rfl
theorem stpG_in {l out : List Nat} {s : Nat} (h : (out.all fun b => !hasN s b) = false) : stpG l out s = out := by
  unfold stpG; rw [← not_any, Bool.not_eq_false'] at h; rw [h]; simp
theorem stpG_add {l out : List Nat} {s : Nat} (h1 : l.contains s = true) (h : (out.all fun b => !hasN s b) = true) : stpG l out s = out ++ [s] := by
  unfold stpG; rw [← not_any] at h; rw [h1, h]; rfl
/-- Sorting by size and number. -/
theorem srtG (l : List Nat) (hl : ∀ x ∈ l, x < 64) : ((l.foldl (pickG l) []).mergeSort fun x y => !befG y x) = minL l := sortG_eq l hl
theorem meet_8 {a b : Nat} (h : ∀ j, j < 8 → (a.testBit j && b.testBit j) = false) : meetN a b = false := by
  unfold meetN
  rw [List.any_eq_false]
  intro i hi
  rw [h i (by simpa using hi)]; simp
theorem meet_t {a b k : Nat} (hk : k < 8) (h : (a.testBit k && b.testBit k) = true) : meetN a b = true := by
  unfold meetN
  rw [List.any_eq_true]
  exact ⟨k, by simpa using hk, h⟩
end Go.Proofs.Ytomidcehahdmbaa
namespace Go.Proofs.Ytomidcehahdmbaa
open Go.Sx Go.RowKit Vm
set_option maxRecDepth 20000
theorem enC (l : List Nat) : (intsL l).length = l.length := List.length_map ..

theorem k_Idx (l : List Int) (A : Option Addr) (c : Nat) (n : Int) (w : World) (hl : Rd w 1 enInt A l) : Calls Try.prog 101 #[.slice A l.length c, .int .i64 n] w (fun e w' => e = .returned (.int .i64 (seek l n 0)) ∧ Grow w w') := by
  have hlen := hl.len
  refine enter_pure (args := [.slice A l.length c, .int .i64 n]) [sl (fun b => b < w.heap.size) 1 enInt A l] Try.func101 rfl (by rw [Try.ntmps101]; simp) (fun g hg => by simp at hg; subst hg; exact ⟨hl, fun _ h => h⟩) ?_
  refine cj_seq ?_
  refine cj_regionG (gj_step (y_assign rfl) rfl rfl rfl (gj_nil ?_))
  refine ej_th (cj_seq (cj_seq ?_))
  refine cj_regionG (gj_step (y_move rfl) rfl rfl rfl (gj_step (y_lenA Try.underlying24 rfl) rfl rfl rfl (gj_step (y_move rfl) rfl rfl rfl (gj_nil ?_))))
  refine ej_th (cj_block ?_)
  refine cj_lpic (X := Nat) [(0, _), (1, _), (7, _)] (fun k => k ≤ l.length ∧ seek (l.drop k) n k = seek l n 0) (fun k => [(8, .int .i64 k)]) (fun k => l.length - k) 0 (⟨Nat.zero_le _, rfl⟩) ⟨rfl, rfl, rfl, rfl, trivial⟩ ?_
  rintro k ⟨hk, hsk⟩
  dsimp only [List.cons_append, List.nil_append]
  refine cj_seq ?_
  refine cj_regionG (gj_step (y_lss rfl rfl) rfl rfl rfl (gj_nil ?_))
  refine ej_th (cj_seq ?_)
  refine cj_cond rfl (fun h9 => ?_) (fun h9 => ?_)
  · have h9b := h9
    try simp only [sxb] at h9
    obtain ⟨x, hx⟩ : ∃ x, l[k]? = some x := ⟨_, List.getElem?_eq_getElem (by omega)⟩
    rw [seek_drop l n k x hx] at hsk
    refine cj_skip (ej_th (cj_seq (cj_block (cj_seq ?_))))
    refine cj_regionG (gj_step (y_move rfl) rfl rfl rfl (gj_step (y_assign rfl) rfl rfl rfl (gj_nil ?_)))
    refine ej_th (cj_seq ?_)
    refine cj_regionG (gj_step (y_move rfl) rfl rfl rfl (gj_step (y_move rfl) rfl rfl rfl (gj_step (y_move rfl) rfl rfl rfl (gj_step (y_ixR (reads_sl) Try.underlying24 Try.sizeOf3 rfl rfl (⟨by omega, by omega⟩)) rfl rfl rfl (gj_step (y_ld0 (reads_sl) Try.isAgg3 rfl (hx) rfl) rfl rfl rfl (gj_step (y_eql rfl rfl) rfl rfl rfl (gj_nil ?_)))))))
    refine ej_th ?_
    refine cj_cond rfl (fun h16 => ?_) (fun h16 => ?_)
    · have h16b := h16
      try simp only [sxb] at h16
      refine cj_seq ?_
      refine cj_regionG (gj_step (y_move rfl) rfl rfl rfl (gj_step (y_assign rfl) rfl rfl rfl (gj_nil ?_)))
      refine ej_th (cj_ret (ej_blk_ret (ej_then_ret (ej_then_ret (ej_blk_ret (ej_then_ret ?_))))))
      refine ej_ret1 rfl Try.results101 rfl (fun w' hp => ⟨?_, hp.below⟩)
      rw [← hsk, if_pos h16.symm]
    · have h16b := h16
      try simp only [sxb] at h16
      refine cj_skip (ej_blk (ej_th ?_))
      refine cj_regionG (gj_step (y_add rfl rfl (by omega)) rfl rfl rfl (gj_step (y_move rfl) rfl rfl rfl (gj_nil ?_)))
      exact ej_nx (k + 1) (by omega) ⟨by omega, by rw [← hsk, if_neg (fun e => h16 e.symm)]⟩ ⟨rfl, rfl, rfl, rfl, trivial⟩
  · have h9b := h9
    try simp only [sxb] at h9
    refine cj_exit (ej_then_exit (ej_then_exit (ej_blk_hit (ej_th (cj_seq ?_)))))
    refine cj_regionG (gj_step (y_assign rfl) rfl rfl rfl (gj_nil ?_))
    refine ej_th (cj_ret ?_)
    refine ej_ret1 rfl Try.results101 rfl (fun w' hp => ⟨?_, hp.below⟩)
    rw [← hsk, List.drop_of_length_le (by omega)]; rfl

theorem k_Cnt (l : List Int) (A : Option Addr) (c : Nat) (n : Int) (w : World) (hl : Rd w 1 enInt A l) : Calls Try.prog 91 #[.slice A l.length c, .int .i64 n] w (fun e w' => e = .returned (.bool (l.contains n)) ∧ Grow w w') := by
  refine enter_pure (args := [.slice A l.length c, .int .i64 n]) [sl (fun b => b < w.heap.size) 1 enInt A l] Try.func91 rfl (by rw [Try.ntmps91]; simp) (fun g hg => by simp at hg; subst hg; exact ⟨hl, fun _ h => h⟩) ?_
  refine cj_seq ?_
  refine cj_regionG (gj_step (y_assign rfl) rfl rfl rfl (gj_nil ?_))
  refine ej_th (cj_seq ?_)
  refine cj_regionG ?_
  refine gj_step (y_move rfl) rfl rfl rfl (gj_step (y_move rfl) rfl rfl rfl (?_))
  refine gj_step (y_call Try.call101 rfl (fun w hp => k_Idx l A c n w hp.rd)) rfl rfl rfl ?_
  refine gj_step (y_geq rfl rfl) rfl rfl rfl (gj_step (y_assign rfl) rfl rfl rfl (?_))
  refine gj_nil ?_
  refine ej_th (cj_ret ?_)
  refine ej_ret1 rfl Try.results91 rfl (fun w' hp => ⟨?_, hp.below⟩)
  rw [seek_has l n 0 (Int.le_refl _)]

theorem k_Seek (l : List Int) (n : Int) (A : Option Addr) (c : Nat) (w : World) (hl : Rd w 1 enInt A l) : Calls Try.prog 79 #[.slice A l.length c, .int .i64 n] w (fun e w' => e = .returned (.int .i64 (seek l n 0)) ∧ Grow w w') := by
  have hlen := hl.len
  refine enter_pure (args := [.slice A l.length c, .int .i64 n]) [sl (fun b => b < w.heap.size) 1 enInt A l] Try.func79 rfl (by rw [Try.ntmps79]; simp) (fun g hg => by simp at hg; subst hg; exact ⟨hl, fun _ h => h⟩) ?_
  refine cj_seq ?_
  refine cj_regionG (gj_step (y_assign rfl) rfl rfl rfl (gj_nil ?_))
  refine ej_th (cj_seq (cj_seq ?_))
  refine cj_regionG (gj_step (y_assign rfl) rfl rfl rfl (gj_nil ?_))
  refine ej_th (cj_block ?_)
  refine cj_lpic (X := Nat) [(0, _), (1, _)] (fun k => k ≤ l.length ∧ seek (l.drop k) n k = seek l n 0) (fun k => [(5, .int .i64 k)]) (fun k => l.length - k) 0 (⟨Nat.zero_le _, rfl⟩) ⟨rfl, rfl, rfl, trivial⟩ ?_
  rintro k ⟨hk, hsk⟩
  dsimp only [List.cons_append, List.nil_append]
  refine cj_seq (cj_seq ?_)
  refine cj_regionG (gj_step (y_move rfl) rfl rfl rfl (gj_step (y_move rfl) rfl rfl rfl (gj_step (y_lenA Try.underlying24 rfl) rfl rfl rfl (gj_step (y_lss rfl rfl) rfl rfl rfl (gj_nil ?_)))))
  refine ej_th ?_
  refine cj_cond rfl (fun h9 => ?_) (fun h9 => ?_)
  · have h9b := h9
    try simp only [sxb] at h9
    obtain ⟨x, hx⟩ : ∃ x, l[k]? = some x := ⟨_, List.getElem?_eq_getElem (by omega)⟩
    rw [seek_drop l n k x hx] at hsk
    refine cj_skip (ej_th (cj_seq (cj_block (cj_seq ?_))))
    refine cj_regionG (gj_step (y_move rfl) rfl rfl rfl (gj_step (y_move rfl) rfl rfl rfl (gj_step (y_ixR (reads_sl) Try.underlying24 Try.sizeOf3 rfl rfl (⟨by omega, by omega⟩)) rfl rfl rfl (gj_step (y_ld0 (reads_sl) Try.isAgg3 rfl (hx) rfl) rfl rfl rfl (gj_step (y_move rfl) rfl rfl rfl (gj_step (y_eql rfl rfl) rfl rfl rfl (gj_nil ?_)))))))
    refine ej_th ?_
    refine cj_cond rfl (fun h17 => ?_) (fun h17 => ?_)
    · have h17b := h17
      try simp only [sxb] at h17
      refine cj_seq ?_
      refine cj_regionG (gj_step (y_move rfl) rfl rfl rfl (gj_step (y_assign rfl) rfl rfl rfl (gj_nil ?_)))
      refine ej_th (cj_ret (ej_blk_ret (ej_then_ret (ej_then_ret (ej_blk_ret (ej_then_ret ?_))))))
      refine ej_ret1 rfl Try.results79 rfl (fun w' hp => ⟨?_, hp.below⟩)
      rw [← hsk, if_pos h17]
    · have h17b := h17
      try simp only [sxb] at h17
      refine cj_skip (ej_blk (ej_th ?_))
      refine cj_regionG (gj_step (y_move rfl) rfl rfl rfl (gj_step (y_add rfl rfl (by omega)) rfl rfl rfl (gj_step (y_assign rfl) rfl rfl rfl (gj_nil ?_))))
      exact ej_nx (k + 1) (by omega) ⟨by omega, by rw [← hsk, if_neg h17]⟩ ⟨rfl, rfl, rfl, trivial⟩
  · have h9b := h9
    try simp only [sxb] at h9
    refine cj_exit (ej_then_exit (ej_then_exit (ej_blk_hit (ej_th (cj_seq ?_)))))
    refine cj_regionG (gj_step (y_assign rfl) rfl rfl rfl (gj_nil ?_))
    refine ej_th (cj_ret ?_)
    refine ej_ret1 rfl Try.results79 rfl (fun w' hp => ⟨?_, hp.below⟩)
    rw [← hsk, List.drop_of_length_le (by omega)]; rfl

theorem k_sets (s : StrV) (f : Nat) (ca : Array Value) (p : Nat → Bool) (w : World) (hb : strB s.s = true) (hen : ∀ args w, (callFunc f args).run Try.prog w = .ok (.enter f args) w) (hpp : ∀ g, g < 2 ^ s.staff.length → ∀ w1, Grow w w1 → Calls Try.prog f (#[] ++ [.int .i64 (g : Nat)].toArray ++ ca) w1 (fun e w2 => e = .returned (.bool (p g)) ∧ Grow w1 w2)) : Calls Try.prog 62 #[.agg #[.slice s.Ar s.rooms.length s.cr, .slice s.Ag s.gates.length s.cg, .slice s.As s.staff.length s.cs], .func (.func f) #[] ca] w (fun e w' => ∃ A c, e = .returned (.slice A (intsL (setsN s.s p)).length c) ∧ Grow w w' ∧ Res w w' 1 enInt A (intsL (setsN s.s p))) := by
  have hok := StrOk.of hb
  have hnr := hok.nr
  have hng := hok.ng
  have hns := hok.ns
  have hp6 : 2 ^ s.staff.length ≤ 64 := pow_le64 hns.2
  have hpo : 0 < 2 ^ s.staff.length := Nat.two_pow_pos _
  refine enter_pure (args := [.agg #[.slice s.Ar s.rooms.length s.cr, .slice s.Ag s.gates.length s.cg, .slice s.As s.staff.length s.cs], .func (.func f) #[] ca]) [] Try.func62 rfl (by rw [Try.ntmps62]; simp) (by simp) ?_
  refine cj_seq (cj_region ?_)
  refine oj_box rfl rfl rfl (fun b2 => ?_)
  refine oj_step (y_assign rfl) rfl rfl rfl ?_
  refine oj_nil ?_
  refine ej_th (cj_seq ?_)
  refine cj_regionG (gj_step (y_assign rfl) rfl rfl rfl (gj_nil ?_))
  refine ej_th (cj_seq (cj_seq ?_))
  refine cj_regionG (gj_step (y_fa fa26_2 rfl) rfl rfl rfl (gj_step (y_load1 Try.isAgg24 rfl rfl) rfl rfl rfl (gj_step (y_lenA Try.underlying24 rfl) rfl rfl rfl (gj_step (y_shl1 rfl rfl (by omega)) rfl rfl rfl (gj_step (y_move rfl) rfl rfl rfl (gj_nil ?_))))))
  refine ej_th (cj_block ?_)
  refine cj_ownNil 3 1 enInt ?_
  refine cj_lpi (X := Nat × Option Addr × Nat × List Int) [(1, _), (4, _), (10, _)] (fun ⟨k, A1, c1, xs⟩ => k ≤ 2 ^ s.staff.length ∧ xs = intsL ((List.range k).filter p)) (fun ⟨k, A1, c1, xs⟩ => [(5, .slice A1 xs.length c1), (11, .int .i64 (k : Nat))]) (fun ⟨k, A1, c1, xs⟩ => [ow 3 1 enInt A1 c1 xs]) (fun ⟨k, A1, c1, xs⟩ => []) (fun ⟨k, A1, c1, xs⟩ => 2 ^ s.staff.length - k) (0, none, 0, []) (⟨Nat.zero_le _, rfl⟩) ⟨rfl, rfl, rfl, rfl, rfl, trivial⟩ ?_
  rintro ⟨k, A1, c1, xs⟩ ⟨hk, hxs⟩
  dsimp only [List.cons_append, List.nil_append]
  refine cj_seq ?_
  refine cj_regionG (gj_step (y_lss rfl rfl) rfl rfl rfl (gj_nil ?_))
  refine ej_th (cj_seq ?_)
  refine cj_cond rfl (fun h12 => ?_) (fun h12 => ?_)
  · have h12b := h12
    try simp only [sxb] at h12
    have hxl := rng_len p k
    have hxi : xs.length ≤ 64 := by rw [hxs, enC]; omega
    refine cj_skip (ej_th (cj_seq (cj_block (cj_seq ?_))))
    refine cj_regionG (gj_step (y_move rfl) rfl rfl rfl (gj_step (y_assign rfl) rfl rfl rfl (gj_nil ?_)))
    refine ej_th (cj_seq ?_)
    refine cj_regionG ?_
    refine gj_step (y_move rfl) rfl rfl rfl (gj_step (y_move rfl) rfl rfl rfl (?_))
    refine gj_step (y_callV hen rfl rfl (fun w1 hp => hpp k (by omega) w1 hp.below)) rfl rfl rfl ?_
    refine gj_nil ?_
    refine ej_th ?_
    refine cj_cond rfl (fun h16 => ?_) (fun h16 => ?_)
    · have h16b := h16
      try simp only [sxb] at h16
      refine cj_region ?_
      refine oj_step (y_move rfl) rfl rfl rfl ?_
      refine oj_step (y_move rfl) rfl rfl rfl ?_
      refine oj_buildSlice (cs := [.int .i64 (k : Nat)]) [.int .i64 0] Try.underlying24 Try.sizeOf3 Try.zeroValue3 rfl rfl (by kernel_rfl) (by kernel_rfl) rfl (fun b19 => ?_)
      refine oj_append  el24 (fun _ => rfl) enInt_one rfl rfl rfl (reads_lit [((k : Nat) : Int)] (fun _ => rfl) rfl) (by unfold maxLen; simp only [List.length_append, List.length_cons, List.length_nil]; omega) (by simp only [List.length_append, List.length_cons, List.length_nil]; omega) rfl (fun A20 c20 => ?_)
      refine oj_step (y_assign rfl) rfl rfl rfl ?_
      refine oj_nil ?_
      refine ej_blk (ej_th ?_)
      refine cj_regionG (gj_step (y_add rfl rfl (by omega)) rfl rfl rfl (gj_step (y_move rfl) rfl rfl rfl (gj_nil ?_)))
      exact ej_nx (k + 1, A20, c20, xs ++ [((k : Nat) : Int)]) (by first | omega | (simp only; omega)) ⟨by first | omega | (simp only; omega), by rw [hxs, rng_t h16b]; simp⟩ ⟨rfl, rfl, rfl, rfl, rfl, trivial⟩
    · have h16b := h16
      try simp only [sxb] at h16
      refine cj_skip (ej_blk (ej_th ?_))
      refine cj_regionG (gj_step (y_add rfl rfl (by omega)) rfl rfl rfl (gj_step (y_move rfl) rfl rfl rfl (gj_nil ?_)))
      exact ej_nx (k + 1, A1, c1, xs) (by first | omega | (simp only; omega)) ⟨by first | omega | (simp only; omega), by rw [hxs, rng_f h16b]⟩ ⟨rfl, rfl, rfl, rfl, rfl, trivial⟩
  · have h12b := h12
    try simp only [sxb] at h12
    have hke : k = 2 ^ s.staff.length := by omega
    subst hke
    refine cj_exit (ej_then_exit (ej_then_exit (ej_blk_hit (ej_th (cj_seq ?_)))))
    refine cj_regionG (gj_step (y_move rfl) rfl rfl rfl (gj_step (y_assign rfl) rfl rfl rfl (gj_nil ?_)))
    refine ej_th (cj_ret ?_)
    exact ej_ret1 rfl Try.results62 rfl (fun w' hp => ⟨A1, c1, by rw [hxs]; rfl, hp.below, by rw [show intsL (setsN s.s p) = xs from hxs.symm]; exact hp.res (fun _ => rfl) (by have := rng_len p (2 ^ s.staff.length); rw [hxs, enC]; unfold maxLen; omega)⟩)

theorem k_gr1 (s : StrV) (n m bs br : Nat) (w : World) (hs : StrRd w s) (hb : strB s.s = true) (hn : n < 64) (hm : m ≤ 6) (hbs : (ownB bs (cellsB 26 [.slice s.Ar s.rooms.length s.cr, .slice s.Ag s.gates.length s.cg, .slice s.As s.staff.length s.cs])).P w) (hbr : (ownB br (cellsB 3 [.int .i64 (m : Nat)])).P w) : Calls Try.prog 77 #[.int .i64 (n : Nat), .pointer (some ⟨bs, 0, none⟩), .pointer (some ⟨br, 0, none⟩)] w (fun e w' => e = .returned (.bool ((reachV s.s n).testBit m)) ∧ Grow w w') := by
  have hlt := reachV_lt hb n
  have hpm := pow_bd (k := m) (n := 6) hm (by omega)
  have h64 : 2 ^ s.rooms.length ≤ 64 := pow_le64 (rooms_le hb).2.1
  have hlt2 : reachV s.s n < 2 ^ s.rooms.length := hlt
  refine enter_pure (args := [.int .i64 (n : Nat), .pointer (some ⟨bs, 0, none⟩), .pointer (some ⟨br, 0, none⟩)]) [ownB bs (cellsB 26 [.slice s.Ar s.rooms.length s.cr, .slice s.Ag s.gates.length s.cg, .slice s.As s.staff.length s.cs]), ownB br (cellsB 3 [.int .i64 (m : Nat)])] Try.func77 rfl (by rw [Try.ntmps77]; simp) (fun f hf => by
    simp only [List.mem_cons, List.mem_nil_iff, or_false] at hf
    rcases hf with rfl | rfl
    · exact ⟨hbs, fun i hi => by have : i = bs := hi; subst this; exact (Array.getElem?_eq_some_iff.1 hbs).1⟩
    · exact ⟨hbr, fun i hi => by have : i = br := hi; subst this; exact (Array.getElem?_eq_some_iff.1 hbr).1⟩) ?_
  refine cj_seq ?_
  refine cj_regionG (gj_step (y_assign rfl) rfl rfl rfl (gj_nil ?_))
  refine ej_th (cj_seq ?_)
  refine cj_draw (by kernel_rfl) (by kernel_rfl) ?_
  refine gj_step (y_loadSN Try.isAgg26 Try.sizeOf26 rfl) rfl rfl rfl (gj_step (y_move rfl) rfl rfl rfl (gj_step (y_build (cs := [.slice s.Ar s.rooms.length s.cr, .slice s.Ag s.gates.length s.cg, .slice s.As s.staff.length s.cs, .int .i64 (n : Nat)]) st76 rfl (by kernel_rfl)) rfl rfl rfl (?_)))
  refine gj_step (y_call Try.call43 rfl (fun w hp => k_reach s n w (hs.mono hp.below) hb hn)) rfl rfl rfl ?_
  refine gj_step (y_loadS1 Try.isAgg3 rfl rfl) rfl rfl rfl (gj_step (y_shl1 rfl rfl (by omega)) rfl rfl rfl (?_))
  refine gj_step (y_call Try.call55 rfl (fun w hp => k_has _ (2 ^ m) w (by omega) (by omega))) rfl rfl rfl ?_
  refine gj_step (y_assign rfl) rfl rfl rfl (?_)
  refine gj_nil ?_
  refine ej_th (cj_ret ?_)
  refine ej_ret1 rfl Try.results77 rfl (fun w' hp => ⟨?_, hp.below⟩)
  rw [hasN_bit]

theorem k_gd1 (s : StrV) (n m bs ba br : Nat) (w : World) (hs : StrRd w s) (hb : strB s.s = true) (hn : n < 64) (hm : m ≤ 6) (hbs : (ownB bs (cellsB 26 [.slice s.Ar s.rooms.length s.cr, .slice s.Ag s.gates.length s.cg, .slice s.As s.staff.length s.cs])).P w) (hba : (ownB ba (cellsB 3 [.int .i64 (allN s.s : Nat)])).P w) (hbr : (ownB br (cellsB 3 [.int .i64 (m : Nat)])).P w) : Calls Try.prog 63 #[.int .i64 (n : Nat), .pointer (some ⟨bs, 0, none⟩), .pointer (some ⟨ba, 0, none⟩), .pointer (some ⟨br, 0, none⟩)] w (fun e w' => e = .returned (.bool (guardB s.s m n)) ∧ Grow w w') := by
  have hok := StrOk.of hb
  have hns := hok.ns
  have hp6 : 2 ^ s.staff.length ≤ 64 := pow_le64 hns.2
  have hpo : 0 < 2 ^ s.staff.length := Nat.two_pow_pos _
  have hal : allN s.s ≤ 63 := by show 2 ^ s.staff.length - 1 ≤ 63; omega
  have hdl := dif_le (allN s.s) n
  have hlt : reachV s.s (difN (allN s.s) n) < 2 ^ s.rooms.length := reachV_lt hb _
  have hpm := pow_bd (k := m) (n := 6) hm (by omega)
  have h64 : 2 ^ s.rooms.length ≤ 64 := pow_le64 (rooms_le hb).2.1
  refine enter_pure (args := [.int .i64 (n : Nat), .pointer (some ⟨bs, 0, none⟩), .pointer (some ⟨ba, 0, none⟩), .pointer (some ⟨br, 0, none⟩)]) [ownB bs (cellsB 26 [.slice s.Ar s.rooms.length s.cr, .slice s.Ag s.gates.length s.cg, .slice s.As s.staff.length s.cs]), ownB ba (cellsB 3 [.int .i64 (allN s.s : Nat)]), ownB br (cellsB 3 [.int .i64 (m : Nat)])] Try.func63 rfl (by rw [Try.ntmps63]; simp) (fun f hf => by
    simp only [List.mem_cons, List.mem_nil_iff, or_false] at hf
    rcases hf with rfl | rfl | rfl
    · exact ⟨hbs, fun i hi => by have : i = bs := hi; subst this; exact (Array.getElem?_eq_some_iff.1 hbs).1⟩
    · exact ⟨hba, fun i hi => by have : i = ba := hi; subst this; exact (Array.getElem?_eq_some_iff.1 hba).1⟩
    · exact ⟨hbr, fun i hi => by have : i = br := hi; subst this; exact (Array.getElem?_eq_some_iff.1 hbr).1⟩) ?_
  refine cj_seq ?_
  refine cj_regionG (gj_step (y_assign rfl) rfl rfl rfl (gj_nil ?_))
  refine ej_th (cj_seq ?_)
  refine cj_draw (by kernel_rfl) (by kernel_rfl) ?_
  refine gj_step (y_loadSN Try.isAgg26 Try.sizeOf26 rfl) rfl rfl rfl (gj_step (y_loadS1 Try.isAgg3 rfl rfl) rfl rfl rfl (gj_step (y_move rfl) rfl rfl rfl (gj_step (y_andNotN rfl rfl (by omega) (by omega)) rfl rfl rfl (gj_step (y_build (cs := [.slice s.Ar s.rooms.length s.cr, .slice s.Ag s.gates.length s.cg, .slice s.As s.staff.length s.cs, .int .i64 (difN (allN s.s) n : Nat)]) st76 rfl (by kernel_rfl)) rfl rfl rfl (?_)))))
  refine gj_step (y_call Try.call43 rfl (fun w hp => k_reach s (difN (allN s.s) n) w (hs.mono hp.below) hb (by omega))) rfl rfl rfl ?_
  refine gj_step (y_loadS1 Try.isAgg3 rfl rfl) rfl rfl rfl (gj_step (y_shl1 rfl rfl (by omega)) rfl rfl rfl (?_))
  refine gj_step (y_call Try.call55 rfl (fun w hp => k_has _ (2 ^ m) w (by omega) (by omega))) rfl rfl rfl ?_
  refine gj_step (y_not rfl) rfl rfl rfl (gj_step (y_assign rfl) rfl rfl rfl (?_))
  refine gj_nil ?_
  refine ej_th (cj_ret ?_)
  refine ej_ret1 rfl Try.results63 rfl (fun w' hp => ⟨?_, hp.below⟩)
  rw [hasN_bit]; rfl

theorem k_ls1 (a y ba bf : Nat) (w : World) (ha : a < 256) (hy : y < 256) (hba : (ownB ba (cellsB 3 [.int .i64 (a : Nat)])).P w) (hbf : (ownB bf (cellsB 40 [.func (.func 55) #[] #[]])).P w) : Calls Try.prog 90 #[.int .i64 (y : Nat), .pointer (some ⟨ba, 0, none⟩), .pointer (some ⟨bf, 0, none⟩)] w (fun e w' => e = .returned (.bool (decide (a ≠ y) && hasN a y)) ∧ Grow w w') := by
  refine enter_pure (args := [.int .i64 (y : Nat), .pointer (some ⟨ba, 0, none⟩), .pointer (some ⟨bf, 0, none⟩)]) [ownB ba (cellsB 3 [.int .i64 (a : Nat)]), ownB bf (cellsB 40 [.func (.func 55) #[] #[]])] Try.func90 rfl (by rw [Try.ntmps90]; simp) (fun f hf => by
    simp only [List.mem_cons, List.mem_nil_iff, or_false] at hf
    rcases hf with rfl | rfl
    · exact ⟨hba, fun i hi => by have : i = ba := hi; subst this; exact (Array.getElem?_eq_some_iff.1 hba).1⟩
    · exact ⟨hbf, fun i hi => by have : i = bf := hi; subst this; exact (Array.getElem?_eq_some_iff.1 hbf).1⟩) ?_
  refine cj_seq ?_
  refine cj_regionG (gj_step (y_assign rfl) rfl rfl rfl (gj_nil ?_))
  refine ej_th (cj_seq ?_)
  refine cj_regionG ?_
  refine gj_step (y_loadS1 Try.isAgg3 rfl rfl) rfl rfl rfl (gj_step (y_move rfl) rfl rfl rfl (gj_step (y_neq rfl rfl) rfl rfl rfl (gj_step (y_move rfl) rfl rfl rfl (?_))))
  refine gj_g 4 8 12 rfl rfl rfl rfl (fun hg8 => gj_yes rfl rfl rfl (y_loadS1 Try.isAgg40 rfl rfl) rfl rfl (gj_yes rfl rfl rfl (y_loadS1 Try.isAgg3 rfl rfl) rfl rfl (gj_yes rfl rfl rfl (y_move rfl) rfl rfl (gj_yes rfl rfl rfl (y_callV Try.call55 rfl rfl (fun w hp => by have h9 := k_has a y w (by omega) (by omega); exact h9)) rfl rfl (gj_nil rfl))))) ?_
  refine gj_step (y_and rfl rfl rfl) rfl rfl rfl (gj_step (y_assign rfl) rfl rfl rfl (?_))
  refine gj_nil ?_
  refine ej_th (cj_ret ?_)
  refine ej_ret1 rfl Try.results90 rfl (fun w' hp => ⟨?_, hp.below⟩)
  rw [ne_V]

def sortI_laid_ren : Go.Shelf.Ren := ⟨fun | 6 => 92 | 15 => 103 | 14 => 102 | 28 => 118 | 29 => 119 | 20 => 110 | 21 => 111 | 22 => 112 | 23 => 113 | 24 => 114 | 25 => 115 | 26 => 116 | 27 => 117 | 46 => 120 | 47 => 121 | 48 => 122 | 49 => 123 | 50 => 124 | 57 => 125 | n => n, fun | 22 => 24 | 24 => 3 | 25 => 57 | 3 => 3 | 39 => 112 | 0 => 0 | 53 => 122 | 55 => 124 | 4 => 4 | 46 => 136 | 45 => 135 | 50 => 86 | 5 => 5 | 9 => 9 | 66 => 141 | 70 => 145 | 76 => 147 | 77 => 148 | n => n, fun n => n⟩
theorem sortI_laid : Go.Proofs.SlLaysF.n6 Try.prog sortI_laid_ren where
  mixed := by kernel_rfl
  f6 := ⟨Try.f92.name, by kernel_rfl, Try.func92.trans (congrArg some (by kernel_rfl))⟩
  f14 := ⟨Try.f102.name, by kernel_rfl, Try.func102.trans (congrArg some (by kernel_rfl))⟩
  f15 := Try.func103.trans (congrArg some (by kernel_rfl))
  f20 := ⟨Try.f110.name, by kernel_rfl, Try.func110.trans (congrArg some (by kernel_rfl))⟩
  f21 := ⟨Try.f111.name, by kernel_rfl, Try.func111.trans (congrArg some (by kernel_rfl))⟩
  f22 := ⟨Try.f112.name, by kernel_rfl, Try.func112.trans (congrArg some (by kernel_rfl))⟩
  f23 := ⟨Try.f113.name, by kernel_rfl, Try.func113.trans (congrArg some (by kernel_rfl))⟩
  f24 := ⟨Try.f114.name, by kernel_rfl, Try.func114.trans (congrArg some (by kernel_rfl))⟩
  f25 := ⟨Try.f115.name, by kernel_rfl, Try.func115.trans (congrArg some (by kernel_rfl))⟩
  f26 := ⟨Try.f116.name, by kernel_rfl, Try.func116.trans (congrArg some (by kernel_rfl))⟩
  f27 := ⟨Try.f117.name, by kernel_rfl, Try.func117.trans (congrArg some (by kernel_rfl))⟩
  f28 := Try.func118.trans (congrArg some (by kernel_rfl))
  f29 := Try.func119.trans (congrArg some (by kernel_rfl))
  f46 := ⟨Try.f120.name, by kernel_rfl, Try.func120.trans (congrArg some (by kernel_rfl))⟩
  f47 := Try.func121.trans (congrArg some (by kernel_rfl))
  f48 := Try.func122.trans (congrArg some (by kernel_rfl))
  f49 := ⟨Try.f123.name, by kernel_rfl, Try.func123.trans (congrArg some (by kernel_rfl))⟩
  f50 := ⟨Try.f124.name, by kernel_rfl, Try.func124.trans (congrArg some (by kernel_rfl))⟩
  f57 := ⟨Try.f125.name, by kernel_rfl, Try.func125.trans (congrArg some (by kernel_rfl))⟩
  t0 := Try.underlying0
  a0 := Try.isAgg0
  z0 := Try.sizeOf0
  v0 := Try.zeroValue0
  t3 := Try.underlying3
  a3 := Try.isAgg3
  z3 := Try.sizeOf3
  v3 := Try.zeroValue3
  t4 := Try.underlying4
  a4 := Try.isAgg4
  z4 := Try.sizeOf4
  v4 := Try.zeroValue4
  t5 := Try.underlying5
  a5 := Try.isAgg5
  z5 := Try.sizeOf5
  v5 := Try.zeroValue5
  t9 := Try.underlying9
  a9 := Try.isAgg9
  z9 := Try.sizeOf9
  v9 := Try.zeroValue9
  t22 := Try.underlying24
  a22 := Try.isAgg24
  z22 := Try.sizeOf24
  v22 := Try.zeroValue24
  a24 := Try.isAgg3
  z24 := Try.sizeOf3
  t25 := Try.underlying57
  a25 := Try.isAgg57
  z25 := Try.sizeOf57
  v25 := Try.zeroValue57
  t39 := Try.underlying112
  a39 := Try.isAgg112
  z39 := Try.sizeOf112
  v39 := Try.zeroValue112
  t45 := Try.underlying135
  a45 := Try.isAgg135
  z45 := Try.sizeOf135
  v45 := Try.zeroValue135
  t46 := Try.underlying136
  a46 := Try.isAgg136
  z46 := Try.sizeOf136
  v46 := Try.zeroValue136
  t50 := Try.underlying86
  a50 := Try.isAgg86
  z50 := Try.sizeOf86
  v50 := Try.zeroValue86
  t53 := Try.underlying122
  a53 := Try.isAgg122
  z53 := Try.sizeOf122
  v53 := Try.zeroValue122
  t55 := Try.underlying124
  a55 := Try.isAgg124
  z55 := Try.sizeOf124
  v55 := Try.zeroValue124
  t66 := Try.underlying141
  a66 := Try.isAgg141
  z66 := Try.sizeOf141
  v66 := Try.zeroValue141
  t70 := Try.underlying145
  a70 := Try.isAgg145
  z70 := Try.sizeOf145
  v70 := Try.zeroValue145
  t76 := Try.underlying147
  a76 := Try.isAgg147
  z76 := Try.sizeOf147
  v76 := Try.zeroValue147
  t77 := Try.underlying148
  a77 := Try.isAgg148
  z77 := Try.sizeOf148
  v77 := Try.zeroValue148
theorem k_sortG (A : Option Addr) (c : Nat) (ns : List Nat) (w : World) (hx : ∀ x ∈ ns, x < 256) (hl : ns.length < 4611686018427387904) (ho : (ow 3 1 enInt A c (intsL ns)).P w) :
    Calls Try.prog 92 #[.slice A (intsL ns).length c, .func (.func 82) #[] #[]] w (fun en w' => en = .returned (.tuple #[]) ∧ Mut (ow 3 1 enInt A c (intsL ns)) w w' ∧ (ow 3 1 enInt A c (intsL (ns.mergeSort fun x y => !befG y x))).P w') := by
  rw [List.length_map]
  exact calls_sortG sortI_laid 82 (enters_of Try.func82 (by kernel_rfl) rfl) (fun x y hx hy W => k_cmpG x y hx hy W) 3 c A ns w hx hl ho

theorem k_least (l : List Nat) (A : Option Addr) (c : Nat) (w : World) (hl : Rd w 1 enInt A (intsL l)) (h64 : ∀ x ∈ l, x < 64) (hll : l.length ≤ 1000000) : Calls Try.prog 81 #[.slice A (intsL l).length c, .func (.func 55) #[] #[], .func (.func 82) #[] #[]] w (fun e w' => ∃ A c, e = .returned (.slice A (intsL (minL l)).length c) ∧ Grow w w' ∧ Res w w' 1 enInt A (intsL (minL l))) := by
  have hel := enC l
  refine enter_pure (args := [.slice A (intsL l).length c, .func (.func 55) #[] #[], .func (.func 82) #[] #[]]) [sl (fun b => b < w.heap.size) 1 enInt A (intsL l)] Try.func81 rfl (by rw [Try.ntmps81]; simp) (fun g hg => by simp at hg; subst hg; exact ⟨hl, fun _ h => h⟩) ?_
  refine cj_seq (cj_region ?_)
  refine oj_box rfl rfl rfl (fun b4 => ?_)
  refine oj_step (y_assign rfl) rfl rfl rfl ?_
  refine oj_nil ?_
  refine ej_th (cj_seq ?_)
  refine cj_regionG (gj_step (y_assign rfl) rfl rfl rfl (gj_nil ?_))
  refine ej_th (cj_seq (cj_seq ?_))
  refine cj_regionG (gj_step (y_move rfl) rfl rfl rfl (gj_step (y_lenA Try.underlying24 rfl) rfl rfl rfl (gj_step (y_move rfl) rfl rfl rfl (gj_nil ?_))))
  refine ej_th (cj_block ?_)
  refine cj_ownNil 3 1 enInt ?_
  refine cj_lpi (X := Nat × Option Addr × Nat × List Int × List Nat) [(0, _), (2, _), (4, _), (6, _), (10, _), (11, _)] (fun ⟨k, A1, c1, xs, us⟩ => k ≤ l.length ∧ xs = intsL us ∧ us.length ≤ k ∧ (l.drop k).foldl (pickG l) us = l.foldl (pickG l) []) (fun ⟨k, A1, c1, xs, us⟩ => [(7, .slice A1 xs.length c1), (12, .int .i64 (k : Nat))]) (fun ⟨k, A1, c1, xs, us⟩ => [ow 3 1 enInt A1 c1 xs, ownB b4 (cellsB 40 [.func (.func 55) #[] #[]])]) (fun ⟨k, A1, c1, xs, us⟩ => [sl (fun b => b < w.heap.size) 1 enInt A (intsL l)]) (fun ⟨k, A1, c1, xs, us⟩ => l.length - k) (0, none, 0, [], []) (⟨Nat.zero_le _, rfl, Nat.le_refl _, rfl⟩) ⟨rfl, rfl, rfl, rfl, rfl, rfl, rfl, rfl, trivial⟩ ?_
  rintro ⟨k, A1, c1, xs, us⟩ ⟨hk, hxs, huk, hP⟩
  dsimp only [List.cons_append, List.nil_append]
  refine cj_seq ?_
  refine cj_regionG (gj_step (y_lss rfl rfl) rfl rfl rfl (gj_nil ?_))
  refine ej_th (cj_seq ?_)
  refine cj_cond rfl (fun h13 => ?_) (fun h13 => ?_)
  · have h13b := h13
    try simp only [sxb] at h13
    obtain ⟨a, ha⟩ : ∃ a, l[k]? = some a := ⟨_, List.getElem?_eq_getElem (by omega)⟩
    have hx := get_ints ha
    have ha64 := h64 a (List.mem_of_getElem? ha)
    rw [get_drop ha, List.foldl_cons] at hP
    have hul := pickG_len l (l.take k) []
    have hxl : xs.length ≤ 1000000 := by rw [hxs, enC]; omega
    refine cj_skip (ej_th (cj_seq (cj_block (cj_seq (cj_region ?_)))))
    refine oj_step (y_ixR (reads_sl) Try.underlying24 Try.sizeOf3 rfl rfl (⟨by omega, by omega⟩)) rfl rfl rfl ?_
    refine oj_step (y_ld0 (reads_sl) Try.isAgg3 rfl (hx) rfl) rfl rfl rfl ?_
    refine oj_alloc Try.zeroValue3 rfl rfl (fun b9 => ?_)
    refine oj_store rfl rfl rfl rfl Try.sizeOf3 rfl ?_
    refine oj_nil ?_
    refine ej_th (cj_seq ?_)
    refine cj_regionG ?_
    refine gj_step (y_move rfl) rfl rfl rfl (gj_step (y_makeFunc rfl rfl) rfl rfl rfl (?_))
    refine gj_step (y_call Try.call48 rfl (fun w hp => k_ContI (intsL l) A c 90 #[.pointer (some ⟨b9, 0, none⟩), .pointer (some ⟨b4, 0, none⟩)] (fun b : Int => decide (a ≠ b.toNat) && hasN a b.toNat) w hp.rd Try.call90 (fun x hx w1 hg => by
      obtain ⟨y, hy, rfl⟩ := List.mem_map.1 hx
      have hy2 := h64 y hy
      exact k_ls1 a y b9 b4 w1 (by omega) (by omega) ((hp.grow hg).own1) ((hp.grow hg).own1)))) rfl rfl rfl ?_
    refine gj_step (y_not rfl) rfl rfl rfl (gj_step (y_move rfl) rfl rfl rfl (?_))
    refine gj_g 4 20 24 rfl rfl rfl rfl (fun hg20 => gj_yes rfl rfl rfl (y_move rfl) rfl rfl (gj_yes rfl rfl rfl (y_load1 Try.isAgg3 rfl rfl) rfl rfl (gj_yes rfl rfl rfl (y_call Try.call91 rfl (fun w hp => k_Cnt xs A1 c1 (a : Nat) w (hp.rdO (fun _ => rfl) (by unfold maxLen; omega)))) rfl rfl (gj_yes rfl rfl rfl (y_not rfl) rfl rfl (gj_nil rfl))))) ?_
    refine gj_step (y_and rfl rfl rfl) rfl rfl rfl (?_)
    refine gj_nil ?_
    refine ej_th ?_
    refine cj_cond rfl (fun h25 => ?_) (fun h25 => ?_)
    · have h25b := h25
      try simp only [sxb] at h25
      rw [any_ints, Bool.not_not, hxs, ints_has] at h25b
      have hpk : pickG l us a = us ++ [a] := by unfold pickG; rw [if_pos h25b]
      refine cj_region ?_
      refine oj_step (y_move rfl) rfl rfl rfl ?_
      refine oj_step (y_load1 Try.isAgg3 rfl rfl) rfl rfl rfl ?_
      refine oj_buildSlice (cs := [.int .i64 (a : Nat)]) [.int .i64 0] Try.underlying24 Try.sizeOf3 Try.zeroValue3 rfl rfl (by kernel_rfl) (by kernel_rfl) rfl (fun b28 => ?_)
      refine oj_append  el24 (fun _ => rfl) enInt_one rfl rfl rfl (reads_lit [((a : Nat) : Int)] (fun _ => rfl) rfl) (by unfold maxLen; simp only [List.length_append, List.length_cons, List.length_nil]; omega) (by simp only [List.length_append, List.length_cons, List.length_nil]; omega) rfl (fun A29 c29 => ?_)
      refine oj_step (y_assign rfl) rfl rfl rfl ?_
      refine oj_nil ?_
      refine ej_blk (ej_th ?_)
      refine cj_regionG (gj_step (y_add rfl rfl (by omega)) rfl rfl rfl (gj_step (y_move rfl) rfl rfl rfl (gj_nil ?_)))
      exact ej_nx (k + 1, A29, c29, xs ++ [((a : Nat) : Int)], us ++ [a]) (by first | omega | (simp only; omega)) ⟨by first | omega | (simp only; omega), by rw [hxs]; simp, by simp; omega, by rw [← hpk]; exact hP⟩ ⟨rfl, rfl, rfl, rfl, rfl, rfl, rfl, rfl, trivial⟩
    · have h25b := h25
      try simp only [sxb] at h25
      rw [any_ints, Bool.not_not, hxs, ints_has] at h25b
      have hpk : pickG l us a = us := by unfold pickG; rw [if_neg (by rw [h25b]; simp)]
      refine cj_skip (ej_blk (ej_th ?_))
      refine cj_regionG (gj_step (y_add rfl rfl (by omega)) rfl rfl rfl (gj_step (y_move rfl) rfl rfl rfl (gj_nil ?_)))
      exact ej_nx (k + 1, A1, c1, xs, us) (by first | omega | (simp only; omega)) ⟨by first | omega | (simp only; omega), hxs, by first | omega | (simp only; omega), by rw [← hP, hpk]⟩ ⟨rfl, rfl, rfl, rfl, rfl, rfl, rfl, rfl, trivial⟩
  · have h13b := h13
    try simp only [sxb] at h13
    rw [List.drop_of_length_le (by omega)] at hP
    have hP : us = l.foldl (pickG l) [] := hP
    have hul : us.length ≤ 1000000 := by have := pickG_len l l []; rw [hP]; simp only [List.length_nil] at this; omega
    have hum : ∀ x ∈ us, x ∈ l := by rw [hP]; exact pickG_mem l l [] (by simp) (fun _ h => h)
    have hsl : (minL l).length = us.length := by rw [← srtG l h64, ← hP]; exact List.length_mergeSort ..
    refine cj_exit (ej_then_exit (ej_then_exit (ej_blk_hit (ej_th (cj_seq (cj_region ?_))))))
    refine oj_step (y_move rfl) rfl rfl rfl ?_
    refine oj_step (y_move rfl) rfl rfl rfl ?_
    refine oj_mutOw (us := xs) (intsL (minL l)) Try.call92 rfl (fun w hp ho => by
      subst hxs
      have h9 := k_sortG A1 c1 us w (fun x hx => by have := h64 x (hum x hx); omega) (by omega) ho
      rw [show (us.mergeSort fun x y => !befG y x) = minL l by rw [hP]; exact srtG l h64] at h9
      exact h9) rfl ?_
    refine oj_nil ?_
    refine ej_th (cj_seq ?_)
    refine cj_regionG (gj_step (y_move rfl) rfl rfl rfl (gj_step (y_assign rfl) rfl rfl rfl (gj_nil ?_)))
    refine ej_th (cj_ret ?_)
    exact ej_ret1 rfl Try.results81 rfl (fun w' hp => ⟨A1, c1, by rw [enC, hxs, enC, hsl], hp.below, hp.res (fun _ => rfl) (by rw [enC]; unfold maxLen; omega)⟩)

theorem k_leastSets (l : List Nat) (A : Option Addr) (c : Nat) (w : World) (hl : Rd w 1 enInt A (intsL l)) (h64 : ∀ x ∈ l, x < 64) (hll : l.length ≤ 1000000) : Calls Try.prog 61 #[.slice A (intsL l).length c] w (fun e w' => ∃ A c, e = .returned (.slice A (intsL (minL l)).length c) ∧ Grow w w' ∧ Res w w' 1 enInt A (intsL (minL l))) := by
  refine enter_pure (args := [.slice A (intsL l).length c]) [sl (fun b => b < w.heap.size) 1 enInt A (intsL l)] Try.func61 rfl (by rw [Try.ntmps61]; simp) (fun g hg => by simp at hg; subst hg; exact ⟨hl, fun _ h => h⟩) ?_
  refine cj_seq ?_
  refine cj_regionG (gj_step (y_assign rfl) rfl rfl rfl (gj_nil ?_))
  refine ej_th (cj_seq (cj_region ?_))
  refine oj_step (y_move rfl) rfl rfl rfl ?_
  refine oj_callS (fun A c => .slice A (intsL (minL l)).length c) 1 enInt (intsL (minL l)) Try.call81 rfl (fun w hp => k_least l A c w hp.rd h64 hll) rfl (fun A4 c4 fp4 hfp4 => ?_)
  refine oj_step (y_assign rfl) rfl rfl rfl ?_
  refine oj_nil ?_
  refine ej_th (cj_ret ?_)
  exact ej_ret1 rfl Try.results61 rfl (fun w' hp => ⟨A4, c4, rfl, hp.below, hp.resS (fun b hb => hfp4 b hb)⟩)

theorem k_groups (s : StrV) (m : Nat) (w : World) (hs : StrRd w s) (hb : strB s.s = true) (hm : m ≤ 6) : Calls Try.prog 58 #[.agg #[.slice s.Ar s.rooms.length s.cr, .slice s.Ag s.gates.length s.cg, .slice s.As s.staff.length s.cs], .int .i64 (m : Nat)] w (fun e w' => ∃ A c, e = .returned (.slice A (intsL (groupsV s.s m)).length c) ∧ Grow w w' ∧ Res w w' 1 enInt A (intsL (groupsV s.s m))) := by
  have hst := staff_le hb
  have hsl : (reachL s.s m).length ≤ 64 := Nat.le_trans (rng_len _ _) hst
  refine enter_pure (args := [.agg #[.slice s.Ar s.rooms.length s.cr, .slice s.Ag s.gates.length s.cg, .slice s.As s.staff.length s.cs], .int .i64 (m : Nat)]) [] Try.func58 rfl (by rw [Try.ntmps58]; simp) (by simp) ?_
  refine cj_seq (cj_region ?_)
  refine oj_box rfl rfl rfl (fun b2 => ?_)
  refine oj_box rfl rfl rfl (fun b3 => ?_)
  refine oj_step (y_assign rfl) rfl rfl rfl ?_
  refine oj_nil ?_
  refine ej_th (cj_seq (cj_region ?_))
  refine oj_step (y_loadN Try.isAgg26 Try.sizeOf26 rfl) rfl rfl rfl ?_
  refine oj_step (y_makeFunc rfl rfl) rfl rfl rfl ?_
  refine oj_callS (fun A c => .slice A (intsL (reachL s.s m)).length c) 1 enInt (intsL (reachL s.s m)) Try.call62 rfl (fun w hp => k_sets s 77 #[.pointer (some ⟨b2, 0, none⟩), .pointer (some ⟨b3, 0, none⟩)] (fun g => (reachV s.s g).testBit m) w hb Try.call77 (fun g hg w1 hgr => k_gr1 s g m b2 b3 w1 ((hs.mono hp.below).mono hgr) hb (Nat.lt_of_lt_of_le hg hst) hm ((hp.grow hgr).own1) ((hp.grow hgr).own1))) rfl (fun A7 c7 fp7 hfp7 => ?_)
  refine oj_callS (fun A c => .slice A (intsL (minL (reachL s.s m))).length c) 1 enInt (intsL (minL (reachL s.s m))) Try.call61 rfl (fun w hp => k_leastSets (reachL s.s m) A7 c7 w hp.rd (sets_lt hb) (by omega)) rfl (fun A8 c8 fp8 hfp8 => ?_)
  refine oj_step (y_assign rfl) rfl rfl rfl ?_
  refine oj_nil ?_
  refine ej_th (cj_ret ?_)
  exact ej_ret1 rfl Try.results58 rfl (fun w' hp => ⟨A8, c8, rfl, hp.below, hp.resS (fun b hb => hfp8 b hb)⟩)

end Go.Proofs.Ytomidcehahdmbaa
