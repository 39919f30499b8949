/- Texts of ours, joined: 29 of them. Conditions: none. -/
import Derived.Test.YtppfniekcgnmjaaGreatXTopFound2
import Derived.Test.YtppfniekcgnmjaaGreatProg
import Derived.WalkKit
import Derived.Laws.StructEq
namespace Go.Proofs.YtppfniekcgnmjaaGreat.Va
open Go.Sx Go.RowKit Vm
set_option maxRecDepth 20000
def oc1 (x : Int) : Int := IntKind.u64.wrap (bits .and .u64 (x / 2) 6148914691236517205 + bits .and .u64 x 6148914691236517205)
def oc2 (x : Int) : Int := IntKind.u64.wrap (bits .and .u64 (x / 4) 3689348814741910323 + bits .and .u64 x 3689348814741910323)
def oc3 (x : Int) : Int := bits .and .u64 (IntKind.u64.wrap (x / 16 + x)) 1085102592571150095
def oc4 (x : Int) : Int := IntKind.u64.wrap (x + x / 256)
def oc5 (x : Int) : Int := IntKind.u64.wrap (x + x / 65536)
def oc6 (x : Int) : Int := IntKind.u64.wrap (x + x / 4294967296)
def oc (x : Int) : Int := bits .and .i64 (wrap64 (oc6 (oc5 (oc4 (oc3 (oc2 (oc1 x))))))) 127
theorem oc_eq : ∀ n : Fin 256, oc (n.val : Int) = (popc n.val : Int) := by decide +kernel
set_option maxHeartbeats 1000000 in
theorem k_oc64 (x : Int) (w : World) : Calls Tryz.prog 199 #[.int .u64 x] w (fun e w' => e = .returned (.int .i64 (oc x)) ∧ w' = w) := by
  go_enter Tryz.func199, Tryz.ntmps199
  go_wp2
  go_ret
  refine ⟨?_, rfl⟩
  refine congrArg (fun v => Ending.returned (.int .i64 v)) (?_ : _ = oc x)
  generalize h1 : IntKind.u64.wrap (bits .and .u64 (x / 2) 6148914691236517205 + bits .and .u64 x 6148914691236517205) = x1
  generalize h2 : IntKind.u64.wrap (bits .and .u64 (x1 / 4) 3689348814741910323 + bits .and .u64 x1 3689348814741910323) = x2
  generalize h3 : bits .and .u64 (IntKind.u64.wrap (x2 / 16 + x2)) 1085102592571150095 = x3
  subst h3; subst h2; subst h1
  rfl
theorem k_oc (x : Int) (w : World) : Calls Tryz.prog 189 #[.int .u64 x] w (fun e w' => e = .returned (.int .i64 (oc x)) ∧ w' = w) := by
  go_enter Tryz.func189, Tryz.ntmps189
  go_wp2_with (go_at_call 199; refine (k_oc64 _ _).mono ?_; rintro e w' ⟨rfl, rfl⟩)
  go_ret
  exact ⟨rfl, rfl⟩
theorem k_ocN (n : Nat) (hn : n < 256) (w : World) : Calls Tryz.prog 189 #[.int .u64 n] w (fun e w' => e = .returned (.int .i64 (popc n)) ∧ w' = w) := by
  have h := k_oc (n : Int) w
  rw [show oc (n : Int) = (popc n : Int) from oc_eq ⟨n, hn⟩] at h
  exact h
end Go.Proofs.YtppfniekcgnmjaaGreat.Va
namespace Go.Proofs.YtppfniekcgnmjaaGreat.Va
open Go.Sx Go.RowKit
set_option maxRecDepth 20000
theorem fa230_1 : FieldIs Tryz.prog 230 1 3 1 false := ⟨⟨_, _, Tryz.underlying230, rfl, rfl, Tryz.sizeOf3, Tryz.isAgg3, by decide⟩⟩
end Go.Proofs.YtppfniekcgnmjaaGreat.Va
namespace Go.Proofs.YtppfniekcgnmjaaGreat.Va
open Go.Sx Go.RowKit Vm
set_option maxRecDepth 20000
theorem k_inside1 (s : StrV) (n r bt br : Nat) (hr6 : s.rooms.length ≤ 6) (hr : r ≤ 4611686018427387904) : IterX Tryz.prog 204 #[.pointer (some ⟨bt, 0, none⟩), .pointer (some ⟨br, 0, none⟩)] (fun p : Nat => [.int .i64 (p : Nat)]) (insF r s.rooms.length 0) [ownB bt (cellsB 230 [.slice s.Ar s.rooms.length s.cr, .slice s.Ag s.gates.length s.cg, .slice s.As s.staff.length s.cs, .int .i64 (n : Nat)]), ownB br (cellsB 3 [.int .i64 (r : Nat)])] := by
  intro l J Jx w hgr hadd hdrop hfacts hgrx hdrx hfx hround hJ0
  refine enter_pure (args := [.func (.yield l) #[] #[], .pointer (some ⟨bt, 0, none⟩), .pointer (some ⟨br, 0, none⟩)]) [ownB bt (cellsB 230 [.slice s.Ar s.rooms.length s.cr, .slice s.Ag s.gates.length s.cg, .slice s.As s.staff.length s.cs, .int .i64 (n : Nat)]), ownB br (cellsB 3 [.int .i64 (r : Nat)])] Tryz.func204 rfl (by rw [Tryz.ntmps204]; simp) (fun g hg => hfacts [] 0 w hJ0 g (List.mem_append_left _ hg)) ?_
  refine cj_seq ?_
  refine cj_regionG (gj_step (y_fa0 fa230_0 rfl) rfl rfl rfl (gj_step (y_fa0 fa196_0 rfl) rfl rfl rfl (gj_step (y_loadS1 Tryz.isAgg191 rfl rfl) rfl rfl rfl (gj_step (y_lenA Tryz.underlying191 rfl) rfl rfl rfl (gj_step (y_move rfl) rfl rfl rfl (gj_nil ?_))))))
  refine ej_th (cj_block ?_)
  refine cj_loopB (X := Nat × Nat) (fun ⟨k, i⟩ => k ≤ (insF r s.rooms.length 0).length ∧ i ≤ s.rooms.length ∧ (insF r s.rooms.length 0).drop k = insF r (s.rooms.length - i) i) (fun ⟨k, i⟩ => [(0, .func (.yield l) #[] #[]), (1, .pointer (some ⟨bt, 0, none⟩)), (2, .pointer (some ⟨br, 0, none⟩)), (8, .int .i64 (s.rooms.length : Nat)), (9, .int .i64 (i : Nat))]) (fun ⟨k, i⟩ => fun W => J [] k W) [ownB bt (cellsB 230 [.slice s.Ar s.rooms.length s.cr, .slice s.Ag s.gates.length s.cg, .slice s.As s.staff.length s.cs, .int .i64 (n : Nat)]), ownB br (cellsB 3 [.int .i64 (r : Nat)])] (fun ⟨k, i⟩ => s.rooms.length - i) (0, 0) (⟨Nat.zero_le _, Nat.zero_le _, rfl⟩) ⟨rfl, rfl, rfl, rfl, rfl, trivial⟩ (fun w1 hp => hgr _ _ _ _ hJ0 hp.below) (fun x W h g hg => hfacts [] _ W h g (List.mem_append_left _ hg)) ?_
  rintro ⟨k, i⟩ W ⟨hk, hi, hsk⟩ hJW
  refine cj_seq ?_
  refine cj_regionG (gj_step (y_lss rfl rfl) rfl rfl rfl (gj_nil ?_))
  refine ej_th (cj_seq ?_)
  refine cj_cond rfl (fun h10 => ?_) (fun h10 => ?_)
  · have h10b := h10
    try simp only [sxb] at h10
    have hpi := pow_bd (k := i) (n := 6) (by omega) (by omega)
    refine cj_skip (ej_th (cj_seq (cj_block (cj_seq ?_))))
    refine cj_regionG (gj_step (y_move rfl) rfl rfl rfl (gj_step (y_assign rfl) rfl rfl rfl (gj_nil ?_)))
    refine ej_th (cj_seq ?_)
    refine cj_plan 10 (by kernel_rfl) (by kernel_rfl) ?_
    refine pl_y 0 rfl (y_loadS1 Tryz.isAgg3 rfl rfl) rfl rfl rfl rfl (by kernel_rfl) ?_
    refine pl_y 1 rfl (y_move rfl) rfl rfl rfl rfl (by kernel_rfl) ?_
    refine pl_y 2 rfl (y_shl1 rfl rfl (by omega)) rfl rfl rfl rfl (by kernel_rfl) ?_
    refine pl_y 3 rfl (y_call Tryz.call169 rfl (fun w hp => k_has r (2 ^ i) w (by omega) (by omega))) rfl rfl rfl rfl (by kernel_rfl) ?_
    refine pl_y 4 rfl (y_move rfl) rfl rfl rfl rfl (by kernel_rfl) ?_
    refine pl_case 16 rfl (fun hg16 => ?_) (fun hg16 => ?_)
    · have hbi := hg16
      rw [hasN_bit] at hbi
      obtain ⟨hget, hdn⟩ := ins_get (by omega) hbi hsk
      have hkl := (List.getElem?_eq_some_iff.1 hget).1
      refine pl_yY 5 rfl rfl rfl rfl hg16 (y_move rfl) rfl rfl rfl (by kernel_rfl) ?_
      refine pl_yY 6 rfl rfl rfl rfl hg16 (y_move rfl) rfl rfl rfl (by kernel_rfl) ?_
      refine pl_w1 7 (by kernel_rfl) rfl rfl (pl_fireG rfl rfl rfl rfl hg16 rfl (by kernel_rfl) ?_)
      refine oj_yesE rfl rfl rfl hg16 ?_
      refine oj_yieldB (T := TB J Jx (k + 1)) [ownB bt (cellsB 230 [.slice s.Ar s.rooms.length s.cr, .slice s.Ag s.gates.length s.cg, .slice s.As s.staff.length s.cs, .int .i64 (n : Nat)]), ownB br (cellsB 3 [.int .i64 (r : Nat)])] rfl rfl rfl (fun w1 hp => hround [] k i w1 hget (hgr _ _ _ _ hJW hp.below)) rfl (fun b W h g hg => ?_) (fun b19 W19 hT19 => ?_)
      · cases b with
        | true => exact hfacts [] _ W h g (List.mem_append_left _ hg)
        | false => exact hfx [] _ W h g (List.mem_append_left _ hg)
      rotate_left
      refine oj_nil ?_
      refine ej_plB (lt_w (by kernel_rfl) (lt_w (by kernel_rfl) (lt_w (by kernel_rfl) (lt_y (y_call Tryz.call169 rfl (fun w hp => k_has r (2 ^ i) w (by omega) (by omega))) rfl (lt_y (y_shl1 rfl rfl (by omega)) rfl (lt_y (y_move rfl) rfl (lt_y (y_loadS1 Tryz.isAgg3 rfl rfl) rfl (lt_nil)))))))) ?_
      refine pl_yY 8 rfl rfl rfl rfl hg16 (y_not rfl) rfl rfl rfl (by kernel_rfl) ?_
      refine pl_y 9 rfl (y_pickT rfl hg16 rfl) rfl rfl rfl rfl (by kernel_rfl) ?_
      refine pl_end (by kernel_rfl) ?_
      refine ej_th ?_
      refine cj_cond rfl (fun h21 => ?_) (fun h21 => ?_)
      · have h21b := h21
        try simp only [sxb] at h21
        have hb19 : b19 = false := not_t h21b
        subst hb19
        refine cj_ret (ej_blk_ret (ej_then_ret (ej_then_ret (ej_blk_ret ?_))))
        first
          | exact ej_ret0 rfl Tryz.results204 (fun w' hp => ⟨⟨_, rfl⟩, .inr ⟨k + 1, hgrx _ _ _ _ hT19 hp.below⟩⟩)
          | exact ej_end0 rfl Tryz.results204 (fun w' hp => ⟨⟨_, rfl⟩, .inl (hgr _ _ _ _ hJW hp.below)⟩)
      · have h21b := h21
        try simp only [sxb] at h21
        first
          | (have hb19 : b19 = true := not_f h21b
             subst hb19
             have hJ2 : J [] (k + 1) W19 := hT19)
          | skip
        refine cj_skip (ej_blk (ej_th ?_))
        refine cj_regionG (gj_step (y_add rfl rfl (by omega)) rfl rfl rfl (gj_step (y_move rfl) rfl rfl rfl (gj_nil ?_)))
        rw [show ((i : Nat) : Int) + 1 = ((i + 1 : Nat) : Int) by omega]
        first
          | exact ej_nxB (k + 1, i + 1) (by first | omega | (simp only; omega)) ⟨by first | omega | (simp only; omega), by first | omega | (simp only; omega), hdn⟩ ⟨rfl, rfl, rfl, rfl, rfl, trivial⟩ (fun w1 hg => hgr _ _ _ _ hJ2 hg)
          | exact ej_nxB (k, i + 1) (by first | omega | (simp only; omega)) ⟨by first | omega | (simp only; omega), by first | omega | (simp only; omega), hdn⟩ ⟨rfl, rfl, rfl, rfl, rfl, trivial⟩ (fun w1 hg => hgr _ _ _ _ hJW hg)
    · have hbi := hg16
      rw [hasN_bit] at hbi
      have hdn := ins_skip (by omega) hbi hsk
      refine pl_yN 5 rfl rfl rfl rfl hg16 rfl rfl rfl (by kernel_rfl) ?_
      refine pl_yN 6 rfl rfl rfl rfl hg16 rfl rfl rfl (by kernel_rfl) ?_
      refine pl_yN 7 rfl rfl rfl rfl hg16 rfl rfl rfl (by kernel_rfl) ?_
      refine pl_yN 8 rfl rfl rfl rfl hg16 rfl rfl rfl (by kernel_rfl) ?_
      refine pl_y 9 rfl (y_pickF rfl hg16 rfl) rfl rfl rfl rfl (by kernel_rfl) ?_
      refine pl_end (by kernel_rfl) ?_
      refine ej_th ?_
      refine cj_cond rfl (fun h21 => ?_) (fun h21 => ?_)
      · cases h21
      · have h21b := h21
        try simp only [sxb] at h21
        first
          | (have hb19 : b19 = true := not_f h21b
             subst hb19
             have hJ2 : J [] (k + 1) W19 := hT19)
          | skip
        refine cj_skip (ej_blk (ej_th ?_))
        refine cj_regionG (gj_step (y_add rfl rfl (by omega)) rfl rfl rfl (gj_step (y_move rfl) rfl rfl rfl (gj_nil ?_)))
        rw [show ((i : Nat) : Int) + 1 = ((i + 1 : Nat) : Int) by omega]
        first
          | exact ej_nxB (k + 1, i + 1) (by first | omega | (simp only; omega)) ⟨by first | omega | (simp only; omega), by first | omega | (simp only; omega), hdn⟩ ⟨rfl, rfl, rfl, rfl, rfl, trivial⟩ (fun w1 hg => hgr _ _ _ _ hJ2 hg)
          | exact ej_nxB (k, i + 1) (by first | omega | (simp only; omega)) ⟨by first | omega | (simp only; omega), by first | omega | (simp only; omega), hdn⟩ ⟨rfl, rfl, rfl, rfl, rfl, trivial⟩ (fun w1 hg => hgr _ _ _ _ hJW hg)
  · have h10b := h10
    try simp only [sxb] at h10
    have hke : i = s.rooms.length := by omega
    subst hke
    rw [Nat.sub_self] at hsk
    have hkx : k = (insF r s.rooms.length 0).length := by
      have h9 := congrArg List.length hsk
      rw [List.length_drop] at h9
      have h8 : (insF r 0 s.rooms.length).length = 0 := rfl
      omega
    subst hkx
    refine cj_exit (ej_then_exit (ej_then_exit (ej_blk_hit ?_)))
    first
      | exact ej_ret0 rfl Tryz.results204 (fun w' hp => ⟨⟨_, rfl⟩, .inr ⟨k + 1, hgrx _ _ _ _ hT19 hp.below⟩⟩)
      | exact ej_end0 rfl Tryz.results204 (fun w' hp => ⟨⟨_, rfl⟩, .inl (hgr _ _ _ _ hJW hp.below)⟩)

theorem k_inside (s : StrV) (n r : Nat) (w : World)  : Calls Tryz.prog 200 #[.agg #[.slice s.Ar s.rooms.length s.cr, .slice s.Ag s.gates.length s.cg, .slice s.As s.staff.length s.cs, .int .i64 (n : Nat)], .int .i64 (r : Nat)] w (fun e w' => ∃ x : Nat × Nat, e = .returned (.func (.func 204) #[] #[.pointer (some ⟨x.1, 0, none⟩), .pointer (some ⟨x.2, 0, none⟩)]) ∧ Grow w w' ∧ (∀ g ∈ ([] : List Fact), g.P w' ∧ ∀ b, g.fp b → w.heap.size ≤ b ∧ b < w'.heap.size) ∧ ([] : List Fact).Pairwise (fun f g => ∀ b, f.fp b → ¬ g.fp b) ∧ (∀ g ∈ [ownB x.1 (cellsB 230 [.slice s.Ar s.rooms.length s.cr, .slice s.Ag s.gates.length s.cg, .slice s.As s.staff.length s.cs, .int .i64 (n : Nat)]), ownB x.2 (cellsB 3 [.int .i64 (r : Nat)])], g.P w' ∧ ∀ b, g.fp b → w.heap.size ≤ b ∧ b < w'.heap.size ∧ ∀ o ∈ ([] : List Fact), ¬ o.fp b)) := by
  refine enter_pure (args := [.agg #[.slice s.Ar s.rooms.length s.cr, .slice s.Ag s.gates.length s.cg, .slice s.As s.staff.length s.cs, .int .i64 (n : Nat)], .int .i64 (r : Nat)]) [] Tryz.func200 rfl (by rw [Tryz.ntmps200]; simp) (by simp) ?_
  refine cj_seq (cj_region ?_)
  refine oj_box rfl rfl rfl (fun b2 => ?_)
  refine oj_box rfl rfl rfl (fun b3 => ?_)
  refine oj_step (y_assign rfl) rfl rfl rfl ?_
  refine oj_nil ?_
  refine ej_th (cj_seq ?_)
  refine cj_regionG (gj_step (y_makeFunc rfl rfl) rfl rfl rfl (gj_step (y_assign rfl) rfl rfl rfl (gj_nil ?_)))
  refine ej_th (cj_ret ?_)
  exact ej_ret1 rfl Tryz.results200 rfl (fun w' hp => ⟨(b2, b3), rfl, hp.below, by simp, List.Pairwise.nil, fun g hg => by
    have hm : g ∈ [ownB b3 (cellsB 3 [.int .i64 (r : Nat)]), ownB b2 (cellsB 230 [.slice s.Ar s.rooms.length s.cr, .slice s.Ag s.gates.length s.cg, .slice s.As s.staff.length s.cs, .int .i64 (n : Nat)])] := by
      simp only [List.mem_cons, List.mem_nil_iff, or_false] at hg ⊢
      exact hg.symm
    exact ⟨(hp.own g hm).1, fun b hb => ⟨Nat.le_of_not_lt ((hp.own g hm).2 b hb).2, ((hp.own g hm).2 b hb).1, by simp⟩⟩⟩)

theorem k_keys (s : StrV) (n r : Nat) (w : World) (hs : StrRd w s) (hok : StrOk s) (hn : n < 64) (hr : r < 64) : Calls Tryz.prog 191 #[.agg #[.slice s.Ar s.rooms.length s.cr, .slice s.Ag s.gates.length s.cg, .slice s.As s.staff.length s.cs, .int .i64 (n : Nat)], .int .i64 (r : Nat)] w (fun e w' => e = .returned (.int .i64 (keysN s.s n r : Nat)) ∧ Grow w w') := by
  have hns := hok.ns
  have hnr := hok.nr
  refine enter_pureM (args := [.agg #[.slice s.Ar s.rooms.length s.cr, .slice s.Ag s.gates.length s.cg, .slice s.As s.staff.length s.cs, .int .i64 (n : Nat)], .int .i64 (r : Nat)]) [sl (fun b => b < w.heap.size) 3 encRo s.Ar s.rooms, sl (fun b => b < w.heap.size) 4 encGa s.Ag s.gates, sl (fun b => b < w.heap.size) 1 enInt s.As s.staff] Tryz.func191 rfl (by rw [Tryz.ntmps191]; simp) (fun g hg => by simp at hg; rcases hg with rfl | rfl | rfl; exact ⟨hs.rooms, fun _ h => h⟩; exact ⟨hs.gates, fun _ h => h⟩; exact ⟨hs.staff, fun _ h => h⟩) ?_
  refine cj_seq (cj_region ?_)
  refine oj_box rfl rfl rfl (fun b2 => ?_)
  refine oj_step (y_assign rfl) rfl rfl rfl ?_
  refine oj_nil ?_
  refine ej_th (cj_seq (cj_region ?_))
  refine oj_alloc Tryz.zeroValue3 rfl rfl (fun b5 => ?_)
  refine oj_store rfl rfl rfl rfl Tryz.sizeOf3 rfl ?_
  refine oj_nil ?_
  refine ej_th (cj_seq (cj_seq ?_))
  refine cj_regionG (gj_step (y_fa0 fa230_0 rfl) rfl rfl rfl (gj_step (y_fa fa196_2 rfl) rfl rfl rfl (gj_step (y_load1 Tryz.isAgg23 rfl rfl) rfl rfl rfl (gj_step (y_lenA Tryz.underlying23 rfl) rfl rfl rfl (gj_step (y_move rfl) rfl rfl rfl (gj_nil ?_))))))
  refine ej_th (cj_block ?_)
  refine cj_lpi (X := Nat × Nat) [(1, _), (2, _), (4, _), (5, _), (11, _), (12, _)] (fun ⟨k, acc⟩ => k ≤ s.staff.length ∧ acc < 256 ∧ keyF n k (s.staff.drop k) acc = keyF n 0 s.staff 0) (fun ⟨k, acc⟩ => [(13, .int .i64 (k : Nat))]) (fun ⟨k, acc⟩ => [ownB b5 (cellsB 3 [.int .i64 (acc : Nat)]), ownB b2 (cellsB 230 [.slice s.Ar s.rooms.length s.cr, .slice s.Ag s.gates.length s.cg, .slice s.As s.staff.length s.cs, .int .i64 (n : Nat)])]) (fun ⟨k, acc⟩ => [sl (fun b => b < w.heap.size) 3 encRo s.Ar s.rooms, sl (fun b => b < w.heap.size) 4 encGa s.Ag s.gates, sl (fun b => b < w.heap.size) 1 enInt s.As s.staff]) (fun ⟨k, acc⟩ => s.staff.length - k) (0, 0) (⟨Nat.zero_le _, by omega, rfl⟩) ⟨rfl, rfl, rfl, rfl, rfl, rfl, rfl, trivial⟩ ?_
  rintro ⟨k, acc⟩ ⟨hk, hacc, hsk⟩
  dsimp only [List.cons_append, List.nil_append]
  refine cj_seq ?_
  refine cj_regionG (gj_step (y_lss rfl rfl) rfl rfl rfl (gj_nil ?_))
  refine ej_th (cj_seq ?_)
  refine cj_cond rfl (fun h14 => ?_) (fun h14 => ?_)
  · have h14b := h14
    try simp only [sxb] at h14
    have hpi := pow_bd (k := k) (n := 6) (by omega) (by omega)
    obtain ⟨x, hx⟩ : ∃ x, s.staff[k]? = some x := ⟨_, List.getElem?_eq_getElem (by omega)⟩
    have hxb := hok.staff x (List.mem_of_getElem? hx)
    obtain ⟨m, rfl⟩ : ∃ m : Nat, x = m := ⟨x.toNat, by omega⟩
    rw [keyF_drop n s.staff k acc _ hx, Int.toNat_natCast] at hsk
    refine cj_skip (ej_th (cj_seq (cj_block (cj_seq ?_))))
    refine cj_regionG (gj_step (y_move rfl) rfl rfl rfl (gj_step (y_ixR (reads_sl) Tryz.underlying23 Tryz.sizeOf3 rfl rfl (⟨by omega, by omega⟩)) rfl rfl rfl (gj_step (y_ld0 (reads_sl) Tryz.isAgg3 rfl (hx) rfl) rfl rfl rfl (gj_step (y_assign rfl) rfl rfl rfl (gj_step (y_assign rfl) rfl rfl rfl (gj_nil ?_))))))
    refine ej_th (cj_seq ?_)
    refine cj_draw (by kernel_rfl) (by kernel_rfl) ?_
    refine gj_step (y_fa fa230_1 rfl) rfl rfl rfl (gj_step (y_load1 Tryz.isAgg3 rfl rfl) rfl rfl rfl (gj_step (y_move rfl) rfl rfl rfl (gj_step (y_shl1 rfl rfl (by omega)) rfl rfl rfl (?_))))
    refine gj_step (y_call Tryz.call169 rfl (fun w hp => k_has n (2 ^ k) w (by omega) (by omega))) rfl rfl rfl ?_
    refine gj_nil ?_
    refine ej_th ?_
    refine cj_cond rfl (fun h22 => ?_) (fun h22 => ?_)
    · have h22b := h22
      try simp only [sxb] at h22
      rw [hasN_bit] at h22b
      rw [if_pos h22b] at hsk
      refine cj_region ?_
      refine oj_step (y_load1 Tryz.isAgg3 rfl rfl) rfl rfl rfl ?_
      refine oj_step (y_move rfl) rfl rfl rfl ?_
      refine oj_step (y_orN rfl rfl (by omega) (by omega)) rfl rfl rfl ?_
      refine oj_store rfl rfl rfl rfl Tryz.sizeOf3 rfl ?_
      refine oj_nil ?_
      refine ej_blk (ej_th ?_)
      refine cj_regionG (gj_step (y_add rfl rfl (by omega)) rfl rfl rfl (gj_step (y_move rfl) rfl rfl rfl (gj_nil ?_)))
      exact ej_nx (k + 1, acc ||| m) (by first | omega | (simp only; omega)) ⟨by first | omega | (simp only; omega), or256 hacc (by omega), hsk⟩ ⟨rfl, rfl, rfl, rfl, rfl, rfl, rfl, trivial⟩
    · have h22b := h22
      try simp only [sxb] at h22
      rw [hasN_bit] at h22b
      rw [if_neg (by rw [h22b]; simp)] at hsk
      refine cj_skip (ej_blk (ej_th ?_))
      refine cj_regionG (gj_step (y_add rfl rfl (by omega)) rfl rfl rfl (gj_step (y_move rfl) rfl rfl rfl (gj_nil ?_)))
      exact ej_nx (k + 1, acc) (by first | omega | (simp only; omega)) ⟨by first | omega | (simp only; omega), hacc, hsk⟩ ⟨rfl, rfl, rfl, rfl, rfl, rfl, rfl, trivial⟩
  · have h14b := h14
    try simp only [sxb] at h14
    rw [List.drop_of_length_le (by omega)] at hsk
    have hsk2 : acc = keyF n 0 s.staff 0 := hsk
    clear hsk
    subst hsk2
    have hK := keys_ins s n r
    refine cj_exit (ej_then_exit (ej_then_exit (ej_blk_hit (ej_th (cj_seq (cj_seq (cj_region ?_)))))))
    refine oj_step (y_loadN Tryz.isAgg230 Tryz.sizeOf230 rfl) rfl rfl rfl ?_
    refine oj_step (y_move rfl) rfl rfl rfl ?_
    refine oj_call (X := Nat × Nat) (fun z => .func (.func 204) #[] #[.pointer (some ⟨z.1, 0, none⟩), .pointer (some ⟨z.2, 0, none⟩)]) (fun _ => []) (fun z => [ownB z.1 (cellsB 230 [.slice s.Ar s.rooms.length s.cr, .slice s.Ag s.gates.length s.cg, .slice s.As s.staff.length s.cs, .int .i64 (n : Nat)]), ownB z.2 (cellsB 3 [.int .i64 (r : Nat)])]) Tryz.call200 rfl (fun w hp => k_inside s n r w) rfl ?_
    rintro ⟨bt, br⟩
    dsimp only [List.nil_append, List.cons_append]
    refine oj_nil ?_
    refine ej_th (cj_block ?_)
    refine cj_rangeX (k_inside1 s n r bt br (by omega) (by omega)) (Y := Nat) (Z := Empty) (fun k y => y < 256 ∧ ((insF r s.rooms.length 0).drop k).foldl (orK s) y = keysN s.s n r) (fun _ y => [ownB b5 (cellsB 3 [.int .i64 (y : Nat)]), ownB b2 (cellsB 230 [.slice s.Ar s.rooms.length s.cr, .slice s.Ag s.gates.length s.cg, .slice s.As s.staff.length s.cs, .int .i64 (n : Nat)])]) Empty.elim Empty.elim (keyF n 0 s.staff 0) ⟨hacc, by rw [hK]; rfl⟩ rfl Tryz.call204 (fun _ => rfl) rfl ?_ ?_ ?_
    · rintro Xs lo Db r0 r1 k p y hp9 ⟨hy256, hy⟩
      have hp6 := insF_mem _ _ _ _ (List.mem_of_getElem? hp9)
      obtain ⟨rm, hrm⟩ : ∃ rm, s.rooms[p]? = some rm := ⟨_, List.getElem?_eq_getElem (by omega)⟩
      have hrb := (hok.room rm (List.mem_of_getElem? hrm)).2.2
      obtain ⟨hd, cl, ky⟩ := rm
      obtain ⟨m, rfl⟩ : ∃ m : Nat, ky = m := ⟨ky.toNat, by simp only at hrb; omega⟩
      simp only at hrb
      rw [get_drop hp9, List.foldl_cons, show orK s y p = y ||| m by unfold orK; rw [roomKey_get hrm, Int.toNat_natCast]] at hy
      dsimp only [List.cons_append, List.nil_append]
      refine cj_regionG (gj_step (y_assign rfl) rfl rfl rfl (gj_nil ?_))
      refine ej_beg (cj_block ?_)
      refine cj_plan 10 (by kernel_rfl) (by kernel_rfl) ?_
      refine pl_y 0 rfl (y_load1 Tryz.isAgg3 rfl rfl) rfl rfl rfl rfl (by kernel_rfl) ?_
      refine pl_y 1 rfl (y_fa0 fa230_0 rfl) rfl rfl rfl rfl (by kernel_rfl) ?_
      refine pl_y 2 rfl (y_fa0 fa196_0 rfl) rfl rfl rfl rfl (by kernel_rfl) ?_
      refine pl_y 3 rfl (y_load1 Tryz.isAgg191 rfl rfl) rfl rfl rfl rfl (by kernel_rfl) ?_
      refine pl_y 4 rfl (y_move rfl) rfl rfl rfl rfl (by kernel_rfl) ?_
      refine pl_y 5 rfl (y_ixR (reads_sl) Tryz.underlying191 Tryz.sizeOf190 rfl rfl (⟨by omega, by omega⟩)) rfl rfl rfl rfl (by kernel_rfl) ?_
      refine pl_y 6 rfl (y_faE fa190_2 rfl) rfl rfl rfl rfl (by kernel_rfl) ?_
      refine pl_y 7 rfl (y_ld1 (reads_sl) Tryz.isAgg3 rfl (hrm) rfl) rfl rfl rfl rfl (by kernel_rfl) ?_
      refine pl_y 8 rfl (y_orN rfl rfl (by omega) (by omega)) rfl rfl rfl rfl (by kernel_rfl) ?_
      refine pl_w1 9 (by kernel_rfl) rfl rfl (pl_fire rfl rfl rfl (by kernel_rfl) ?_)
      refine oj_store rfl rfl rfl rfl Tryz.sizeOf3 rfl ?_
      refine oj_nil ?_
      refine ej_pl (lt_w (by kernel_rfl) (lt_w (by kernel_rfl) (lt_w (by kernel_rfl) (lt_w (by kernel_rfl) (lt_w (by kernel_rfl) (lt_w (by kernel_rfl) (lt_w (by kernel_rfl) (lt_w (by kernel_rfl) (lt_w (by kernel_rfl) (lt_nil)))))))))) ?_
      refine pl_end (by kernel_rfl) ?_
      refine ej_blk ?_
      exact ej_rdS (y ||| m) ⟨or256 hy256 (by omega), hy⟩ (fun _ h => h)
    · rintro Db y ⟨-, hy⟩
      rw [List.drop_of_length_le (Nat.le_refl _)] at hy
      have hy2 : y = keysN s.s n r := hy
      subst hy2
      refine ej_blk (ej_th (cj_seq ?_))
      refine cj_regionG (gj_step (y_load1 Tryz.isAgg3 rfl rfl) rfl rfl rfl (gj_step (y_assign rfl) rfl rfl rfl (gj_nil ?_)))
      refine ej_th (cj_ret ?_)
      exact ej_retM1 rfl Tryz.results191 rfl (fun w' hp => ⟨rfl, hp.below⟩)
    · intro Db z; exact z.elim

end Go.Proofs.YtppfniekcgnmjaaGreat.Va
namespace Go.Proofs.YtppfniekcgnmjaaGreat.Va
open Go.Sx Go.RowKit
set_option maxRecDepth 20000

end Go.Proofs.YtppfniekcgnmjaaGreat.Va
namespace Go.Proofs.YtppfniekcgnmjaaGreat.Va
open Go.Sx Go.RowKit Vm
set_option maxRecDepth 20000
theorem k_op1 (s : StrV) (n r m bt br : Nat) (w : World) (hs : StrRd w s) (hok : StrOk s) (hn : n < 64) (hr : r < 64) (hm : m < 256) (hbt : (ownB bt (cellsB 230 [.slice s.Ar s.rooms.length s.cr, .slice s.Ag s.gates.length s.cg, .slice s.As s.staff.length s.cs, .int .i64 (n : Nat)])).P w) (hbr : (ownB br (cellsB 3 [.int .i64 (r : Nat)])).P w) : Calls Tryz.prog 190 #[.int .i64 (m : Nat), .pointer (some ⟨bt, 0, none⟩), .pointer (some ⟨br, 0, none⟩)] w (fun e w' => e = .returned (.bool (hasN (keysN s.s n r) m)) ∧ Grow w w') := by
  have hk := keysN_lt hok n r
  refine enter_pure (args := [.int .i64 (m : Nat), .pointer (some ⟨bt, 0, none⟩), .pointer (some ⟨br, 0, none⟩)]) [ownB bt (cellsB 230 [.slice s.Ar s.rooms.length s.cr, .slice s.Ag s.gates.length s.cg, .slice s.As s.staff.length s.cs, .int .i64 (n : Nat)]), ownB br (cellsB 3 [.int .i64 (r : Nat)])] Tryz.func190 rfl (by rw [Tryz.ntmps190]; simp) (fun f hf => by
    simp only [List.mem_cons, List.mem_nil_iff, or_false] at hf
    rcases hf with rfl | rfl
    · exact ⟨hbt, fun i hi => by have : i = bt := hi; subst this; exact (Array.getElem?_eq_some_iff.1 hbt).1⟩
    · exact ⟨hbr, fun i hi => by have : i = br := hi; subst this; exact (Array.getElem?_eq_some_iff.1 hbr).1⟩) ?_
  refine cj_seq ?_
  refine cj_regionG (gj_step (y_assign rfl) rfl rfl rfl (gj_nil ?_))
  refine ej_th (cj_seq ?_)
  refine cj_regionG ?_
  refine gj_step (y_loadSN Tryz.isAgg230 Tryz.sizeOf230 rfl) rfl rfl rfl (gj_step (y_loadS1 Tryz.isAgg3 rfl rfl) rfl rfl rfl (?_))
  refine gj_step (y_call Tryz.call191 rfl (fun w hp => k_keys s n r w (hs.mono hp.below) hok hn hr)) rfl rfl rfl ?_
  refine gj_step (y_move rfl) rfl rfl rfl (?_)
  refine gj_step (y_call Tryz.call169 rfl (fun w hp => k_has _ m w (by omega) (by omega))) rfl rfl rfl ?_
  refine gj_step (y_assign rfl) rfl rfl rfl (?_)
  refine gj_nil ?_
  refine ej_th (cj_ret ?_)
  exact ej_ret1 rfl Tryz.results190 rfl (fun w' hp => ⟨rfl, hp.below⟩)

theorem k_opens (s : StrV) (n r : Nat) (g : GateV) (w : World) (hs : StrRd w s) (hok : StrOk s) (hn : n < 64) (hr : r < 64) (hg : g ∈ s.gates) : Calls Tryz.prog 170 #[.agg #[.slice s.Ar s.rooms.length s.cr, .slice s.Ag s.gates.length s.cg, .slice s.As s.staff.length s.cs, .int .i64 (n : Nat)], .agg #[.int .i64 g.a, .int .i64 g.b, .int .i64 g.need, .slice g.A g.ways.length g.c], .int .i64 (r : Nat)] w (fun e w' => e = .returned (.bool (openN s.s n r g.n)) ∧ Grow w w') := by
  have hgo := hok.gate g hg
  obtain ⟨hga, hgb, hgne, hgn, hgl, hgw⟩ := hgo
  have hpc := popc_le n
  refine enter_pure (args := [.agg #[.slice s.Ar s.rooms.length s.cr, .slice s.Ag s.gates.length s.cg, .slice s.As s.staff.length s.cs, .int .i64 (n : Nat)], .agg #[.int .i64 g.a, .int .i64 g.b, .int .i64 g.need, .slice g.A g.ways.length g.c], .int .i64 (r : Nat)]) [sl (fun b => b < w.heap.size) 1 enInt g.A g.ways] Tryz.func170 rfl (by rw [Tryz.ntmps170]; simp) (fun g hg => by simp at hg; subst hg; exact ⟨hs.ways g hg, fun _ h => h⟩) ?_
  refine cj_seq (cj_region ?_)
  refine oj_box rfl rfl rfl (fun b3 => ?_)
  refine oj_box rfl rfl rfl (fun b4 => ?_)
  refine oj_box rfl rfl rfl (fun b5 => ?_)
  refine oj_step (y_assign rfl) rfl rfl rfl ?_
  refine oj_nil ?_
  refine ej_th (cj_seq ?_)
  refine cj_draw (by kernel_rfl) (by kernel_rfl) ?_
  refine gj_step (y_fa fa230_1 rfl) rfl rfl rfl (gj_step (y_load1 Tryz.isAgg3 rfl rfl) rfl rfl rfl (gj_step (y_toU Tryz.underlying3 Tryz.underlying205 rfl (by omega)) rfl rfl rfl (?_)))
  refine gj_step (y_call Tryz.call189 rfl (fun w hp => (k_ocN n (by omega) w).mono fun e w1 h => ⟨h.1, by rw [h.2]; exact Below.refl _ _⟩)) rfl rfl rfl ?_
  refine gj_step (y_fa fa193_2 rfl) rfl rfl rfl (gj_step (y_load1 Tryz.isAgg3 rfl rfl) rfl rfl rfl (gj_step (y_geq rfl rfl) rfl rfl rfl (gj_step (y_move rfl) rfl rfl rfl (?_))))
  refine gj_g 4 14 18 rfl rfl rfl rfl (fun hg14 => gj_yes rfl rfl rfl (y_fa fa193_3 rfl) rfl rfl (gj_yes rfl rfl rfl (y_load1 Tryz.isAgg23 rfl rfl) rfl rfl (gj_yes rfl rfl rfl (y_makeFunc rfl rfl) rfl rfl (gj_yes rfl rfl rfl (y_call Tryz.call76 rfl (fun w hp => k_ContI g.ways g.A g.c 190 #[.pointer (some ⟨b3, 0, none⟩), .pointer (some ⟨b5, 0, none⟩)] (fun x => hasN (keysN s.s n r) x.toNat) w hp.rd Tryz.call190 (fun x hx w1 hg => by
    have hx2 := hgw x hx
    obtain ⟨m, rfl⟩ : ∃ m : Nat, x = m := ⟨x.toNat, by omega⟩
    exact k_op1 s n r m b3 b5 w1 ((hs.mono hp.below).mono hg) hok hn hr (by omega) ((hp.grow hg).own1) ((hp.grow hg).own1)))) rfl rfl (gj_nil rfl))))) ?_
  refine gj_step (y_and rfl rfl rfl) rfl rfl rfl (gj_step (y_assign rfl) rfl rfl rfl (?_))
  refine gj_nil ?_
  refine ej_th (cj_ret ?_)
  exact ej_ret1 rfl Tryz.results170 rfl (fun w' hp => ⟨rfl, hp.below⟩)

theorem k_new (s : StrV) (n r : Nat) (g : GateV) (w : World) (hs : StrRd w s) (hb : strB s.s = true) (hn : n < 64) (hr : r < 2 ^ s.rooms.length) (hg : g ∈ s.gates) : Calls Tryz.prog 149 #[.agg #[.slice s.Ar s.rooms.length s.cr, .slice s.Ag s.gates.length s.cg, .slice s.As s.staff.length s.cs, .int .i64 (n : Nat)], .agg #[.int .i64 g.a, .int .i64 g.b, .int .i64 g.need, .slice g.A g.ways.length g.c], .int .i64 (r : Nat)] w (fun e w' => e = .returned (.tuple #[.int .i64 (newI s n r g), .bool (leadN s.s n r g.n)]) ∧ Grow w w') := by
  have hok := StrOk.of hb
  have hnr := hok.nr
  have hng := hok.ng
  have hns := hok.ns
  have hr64 : r < 64 := Nat.lt_of_lt_of_le hr (pow_le64 hnr.2)
  have hgo := hok.gate g hg
  obtain ⟨hga, hgb, hgne, hgn, hgl, hgw⟩ := hgo
  have hpa : 2 ^ g.a.toNat ≤ 1152921504606846976 := pow_bd (n := 6) (by omega) (by omega)
  have hpb : 2 ^ g.b.toNat ≤ 1152921504606846976 := pow_bd (n := 6) (by omega) (by omega)
  refine enter_pure (args := [.agg #[.slice s.Ar s.rooms.length s.cr, .slice s.Ag s.gates.length s.cg, .slice s.As s.staff.length s.cs, .int .i64 (n : Nat)], .agg #[.int .i64 g.a, .int .i64 g.b, .int .i64 g.need, .slice g.A g.ways.length g.c], .int .i64 (r : Nat)]) [] Tryz.func149 rfl (by rw [Tryz.ntmps149]; simp) (by simp) ?_
  refine cj_seq (cj_region ?_)
  refine oj_box rfl rfl rfl (fun b3 => ?_)
  refine oj_box rfl rfl rfl (fun b4 => ?_)
  refine oj_step (y_assign rfl) rfl rfl rfl ?_
  refine oj_step (y_assign rfl) rfl rfl rfl ?_
  refine oj_nil ?_
  refine ej_th (cj_seq ?_)
  refine cj_draw (by kernel_rfl) (by kernel_rfl) ?_
  refine gj_step (y_move rfl) rfl rfl rfl (gj_step (y_fa0 fa193_0 rfl) rfl rfl rfl (gj_step (y_load1 Tryz.isAgg3 rfl rfl) rfl rfl rfl (gj_step (y_shl1I rfl rfl (by omega) (by omega)) rfl rfl rfl (?_))))
  refine gj_step (y_call Tryz.call169 rfl (fun w hp => k_has r (2 ^ g.a.toNat) w (by omega) (by omega))) rfl rfl rfl ?_
  refine gj_step (y_move rfl) rfl rfl rfl (gj_step (y_fa fa193_1 rfl) rfl rfl rfl (gj_step (y_load1 Tryz.isAgg3 rfl rfl) rfl rfl rfl (gj_step (y_shl1I rfl rfl (by omega) (by omega)) rfl rfl rfl (?_))))
  refine gj_step (y_call Tryz.call169 rfl (fun w hp => k_has r (2 ^ g.b.toNat) w (by omega) (by omega))) rfl rfl rfl ?_
  refine gj_step (y_assign rfl) rfl rfl rfl (gj_step (y_assign rfl) rfl rfl rfl (?_))
  refine gj_nil ?_
  refine ej_th (cj_seq (cj_seq ?_))
  refine cj_regionG ?_
  refine gj_step (y_move rfl) rfl rfl rfl (gj_step (y_move rfl) rfl rfl rfl (gj_step (y_eqlB Tryz.underlying4 rfl rfl) rfl rfl rfl (gj_step (y_move rfl) rfl rfl rfl (?_))))
  refine gj_g 5 23 28 rfl rfl rfl rfl (fun hg23 => gj_yes rfl rfl rfl (y_loadN Tryz.isAgg230 Tryz.sizeOf230 rfl) rfl rfl (gj_yes rfl rfl rfl (y_loadN Tryz.isAgg193 Tryz.sizeOf193 rfl) rfl rfl (gj_yes rfl rfl rfl (y_move rfl) rfl rfl (gj_yes rfl rfl rfl (y_call Tryz.call170 rfl (fun w hp => k_opens s n r g w (hs.mono hp.below) hok hn hr64 hg)) rfl rfl (gj_yes rfl rfl rfl (y_not rfl) rfl rfl (gj_nil rfl)))))) ?_
  refine gj_step (y_or rfl rfl rfl) rfl rfl rfl (?_)
  refine gj_nil ?_
  refine ej_th ?_
  refine cj_cond rfl (fun h29 => ?_) (fun h29 => ?_)
  · have h29b := h29
    try simp only [sxb] at h29
    rw [hasN_bit, hasN_bit, new_V] at h29b
    refine cj_seq ?_
    refine cj_regionG (gj_step (y_assign rfl) rfl rfl rfl (gj_step (y_assign rfl) rfl rfl rfl (gj_nil ?_)))
    refine ej_th (cj_ret (ej_then_ret ?_))
    refine ej_ret2 rfl Tryz.results149 rfl rfl (fun w' hp => ⟨?_, hp.below⟩)
    rw [newI, if_neg (by rw [not_t h29b]; simp), not_t h29b]
  · have h29b := h29
    try simp only [sxb] at h29
    rw [hasN_bit, hasN_bit, new_V] at h29b
    refine cj_skip (ej_th (cj_seq (cj_seq ?_)))
    refine cj_regionG (gj_step (y_move rfl) rfl rfl rfl (gj_nil ?_))
    refine ej_th ?_
    refine cj_cond rfl (fun h30 => ?_) (fun h30 => ?_)
    · have h30b := h30
      try simp only [sxb] at h30
      rw [hasN_bit] at h30b
      refine cj_seq ?_
      refine cj_regionG (gj_step (y_fa fa193_1 rfl) rfl rfl rfl (gj_step (y_load1 Tryz.isAgg3 rfl rfl) rfl rfl rfl (gj_step (y_assign rfl) rfl rfl rfl (gj_step (y_assign rfl) rfl rfl rfl (gj_nil ?_)))))
      refine ej_th (cj_ret (ej_then_ret ?_))
      refine ej_ret2 rfl Tryz.results149 rfl rfl (fun w' hp => ⟨?_, hp.below⟩)
      rw [newI, if_pos (not_f h29b), if_pos h30b, not_f h29b]
    · have h30b := h30
      try simp only [sxb] at h30
      rw [hasN_bit] at h30b
      refine cj_skip (ej_th (cj_seq ?_))
      refine cj_regionG (gj_step (y_fa0 fa193_0 rfl) rfl rfl rfl (gj_step (y_load1 Tryz.isAgg3 rfl rfl) rfl rfl rfl (gj_step (y_assign rfl) rfl rfl rfl (gj_step (y_assign rfl) rfl rfl rfl (gj_nil ?_)))))
      refine ej_th (cj_ret ?_)
      refine ej_ret2 rfl Tryz.results149 rfl rfl (fun w' hp => ⟨?_, hp.below⟩)
      rw [newI, if_pos (not_f h29b), if_neg (by rw [h30b]; simp), not_f h29b]

theorem k_reach (s : StrV) (n : Nat) (w : World) (hs : StrRd w s) (hb : strB s.s = true) (hn : n < 64) : Calls Tryz.prog 122 #[.agg #[.slice s.Ar s.rooms.length s.cr, .slice s.Ag s.gates.length s.cg, .slice s.As s.staff.length s.cs, .int .i64 (n : Nat)]] w (fun e w' => e = .returned (.int .i64 (reachV s.s n : Nat)) ∧ Grow w w') := by
  have hok := StrOk.of hb
  have hnr := hok.nr
  have hng := hok.ng
  have hns := hok.ns
  refine enter_pure (args := [.agg #[.slice s.Ar s.rooms.length s.cr, .slice s.Ag s.gates.length s.cg, .slice s.As s.staff.length s.cs, .int .i64 (n : Nat)]]) [sl (fun b => b < w.heap.size) 3 encRo s.Ar s.rooms, sl (fun b => b < w.heap.size) 4 encGa s.Ag s.gates, sl (fun b => b < w.heap.size) 1 enInt s.As s.staff] Tryz.func122 rfl (by rw [Tryz.ntmps122]; simp) (fun g hg => by simp at hg; rcases hg with rfl | rfl | rfl; exact ⟨hs.rooms, fun _ h => h⟩; exact ⟨hs.gates, fun _ h => h⟩; exact ⟨hs.staff, fun _ h => h⟩) ?_
  refine cj_seq (cj_region ?_)
  refine oj_box rfl rfl rfl (fun b1 => ?_)
  refine oj_step (y_assign rfl) rfl rfl rfl ?_
  refine oj_nil ?_
  refine ej_th ?_
  refine cj_scope rfl ?_
  refine cj_seq ?_
  refine cj_regionG (gj_step (y_assign rfl) rfl rfl rfl (gj_nil ?_))
  refine ej_th (cj_seq (cj_label (ej_th (cj_block ?_))))
  refine cj_lpi (X := Nat) [(1, _)] (fun r => r < 2 ^ s.rooms.length ∧ reachW s.s n r = reachV s.s n) (fun r => [(3, .int .i64 (r : Nat))]) (fun r => [ownB b1 (cellsB 230 [.slice s.Ar s.rooms.length s.cr, .slice s.Ag s.gates.length s.cg, .slice s.As s.staff.length s.cs, .int .i64 (n : Nat)])]) (fun r => [sl (fun b => b < w.heap.size) 3 encRo s.Ar s.rooms, sl (fun b => b < w.heap.size) 4 encGa s.Ag s.gates, sl (fun b => b < w.heap.size) 1 enInt s.As s.staff]) (fun r => 64 - r) 1 (⟨one_lt hb, rfl⟩) ⟨rfl, rfl, trivial⟩ ?_
  rintro r ⟨hr, hW⟩
  dsimp only [List.cons_append, List.nil_append]
  have hr64 : r < 64 := Nat.lt_of_lt_of_le hr (pow_le64 hnr.2)
  refine cj_block (cj_seq (cj_seq ?_))
  refine cj_regionG (gj_step (y_fa0 fa230_0 rfl) rfl rfl rfl (gj_step (y_fa fa196_1 rfl) rfl rfl rfl (gj_step (y_load1 Tryz.isAgg194 rfl rfl) rfl rfl rfl (gj_step (y_lenA Tryz.underlying194 rfl) rfl rfl rfl (gj_step (y_move rfl) rfl rfl rfl (gj_nil ?_))))))
  refine ej_th (cj_block ?_)
  refine cj_lpi (X := Nat) [(1, _), (10, _), (11, _)] (fun k => k ≤ s.gates.length ∧ (s.gates.take k).all (fun g => !leadN s.s n r g.n) = true) (fun k => [(3, .int .i64 (r : Nat)), (12, .int .i64 (k : Nat))]) (fun k => [ownB b1 (cellsB 230 [.slice s.Ar s.rooms.length s.cr, .slice s.Ag s.gates.length s.cg, .slice s.As s.staff.length s.cs, .int .i64 (n : Nat)])]) (fun k => [sl (fun b => b < w.heap.size) 3 encRo s.Ar s.rooms, sl (fun b => b < w.heap.size) 4 encGa s.Ag s.gates, sl (fun b => b < w.heap.size) 1 enInt s.As s.staff]) (fun k => s.gates.length - k) 0 (⟨Nat.zero_le _, rfl⟩) ⟨rfl, rfl, rfl, rfl, rfl, trivial⟩ ?_
  rintro k ⟨hk, hall⟩
  dsimp only [List.cons_append, List.nil_append]
  refine cj_seq ?_
  refine cj_regionG (gj_step (y_lss rfl rfl) rfl rfl rfl (gj_nil ?_))
  refine ej_th (cj_seq ?_)
  refine cj_cond rfl (fun h13 => ?_) (fun h13 => ?_)
  · have h13b := h13
    try simp only [sxb] at h13
    obtain ⟨g, hgk⟩ : ∃ g, s.gates[k]? = some g := ⟨_, List.getElem?_eq_getElem (by omega)⟩
    have hg := List.mem_of_getElem? hgk
    have hgo := hok.gate g hg
    obtain ⟨hga, hgb, hgne, hgn, hgl, hgw⟩ := hgo
    refine cj_skip (ej_th (cj_seq (cj_block (cj_seq (cj_region ?_)))))
    refine oj_step (y_ixR (reads_sl) Tryz.underlying194 Tryz.sizeOf193 rfl rfl (⟨by omega, by omega⟩)) rfl rfl rfl ?_
    refine oj_step (y_ldW (reads_sl) Tryz.isAgg193 Tryz.sizeOf193 rfl (hgk) (fun _ => rfl)) rfl rfl rfl ?_
    refine oj_alloc Tryz.zeroValue193 rfl rfl (fun b5 => ?_)
    refine oj_store rfl rfl rfl rfl Tryz.sizeOf193 rfl ?_
    refine oj_nil ?_
    refine ej_th (cj_seq ?_)
    refine cj_regionG ?_
    refine gj_step (y_loadN Tryz.isAgg230 Tryz.sizeOf230 rfl) rfl rfl rfl (gj_step (y_loadN Tryz.isAgg193 Tryz.sizeOf193 rfl) rfl rfl rfl (gj_step (y_move rfl) rfl rfl rfl (?_)))
    refine gj_step (y_call Tryz.call149 rfl (fun w hp => k_new s n r g w (hs.mono hp.below) hb hn hr hg)) rfl rfl rfl ?_
    refine gj_step (y_move rfl) rfl rfl rfl (gj_step (y_extract rfl rfl) rfl rfl rfl (gj_step (y_extract rfl rfl) rfl rfl rfl (gj_step (y_assign rfl) rfl rfl rfl (gj_step (y_assign rfl) rfl rfl rfl (?_)))))
    refine gj_nil ?_
    refine ej_th (cj_seq ?_)
    refine cj_regionG (gj_step (y_move rfl) rfl rfl rfl (gj_nil ?_))
    refine ej_th ?_
    refine cj_cond rfl (fun h23 => ?_) (fun h23 => ?_)
    · have h23b := h23
      try simp only [sxb] at h23
      have hnx := next_new h23b
      have hnb : 0 ≤ newI s n r g ∧ newI s n r g ≤ 5 := by unfold newI; rw [if_pos h23b]; split <;> omega
      have hpn : 2 ^ (newI s n r g).toNat ≤ 1152921504606846976 := pow_bd (n := 6) (by omega) (by omega)
      have hlt := next_lt hb hr (List.mem_map.2 ⟨g, hg, rfl⟩)
      have hgt := next_gt h23b
      have hst := reachW_some hb hr (find_step hgk hall h23b)
      refine cj_seq ?_
      refine cj_regionG (gj_step (y_move rfl) rfl rfl rfl (gj_step (y_move rfl) rfl rfl rfl (gj_step (y_shl1I rfl rfl (by omega) (by omega)) rfl rfl rfl (gj_step (y_orN rfl rfl (by omega) (by omega)) rfl rfl rfl (gj_step (y_assign rfl) rfl rfl rfl (gj_nil ?_))))))
      refine ej_th (cj_exit (ej_blk_pass rfl (ej_then_exit (ej_then_exit (ej_blk_pass rfl (ej_then_exit (ej_blk_hit ?_)))))))
      rw [hnx]
      exact ej_nx (nextN r g.n) (by first | omega | (simp only; omega)) ⟨hlt, by rw [← hst]; exact hW⟩ ⟨rfl, rfl, trivial⟩
    · have h23b := h23
      try simp only [sxb] at h23
      refine cj_skip (ej_blk (ej_th ?_))
      refine cj_regionG (gj_step (y_add rfl rfl (by omega)) rfl rfl rfl (gj_step (y_move rfl) rfl rfl rfl (gj_nil ?_)))
      exact ej_nx (k + 1) (by omega) ⟨by omega, take_all hgk hall (by rw [h23b]; rfl)⟩ ⟨rfl, rfl, rfl, rfl, rfl, trivial⟩
  · have h13b := h13
    try simp only [sxb] at h13
    have hfin := reachW_none hb hr (find_stop (by rw [← hall, List.take_of_length_le (by omega)]))
    rw [hW] at hfin
    subst hfin
    refine cj_exit (ej_then_exit (ej_then_exit (ej_blk_hit (ej_th (cj_seq ?_)))))
    refine cj_regionG (gj_step (y_move rfl) rfl rfl rfl (gj_step (y_assign rfl) rfl rfl rfl (gj_nil ?_)))
    refine ej_th (cj_ret (ej_blk_ret (ej_then_ret (ej_blk_ret (ej_noGoto_ret ?_)))))
    exact ej_ret1 rfl Tryz.results122 rfl (fun w' hp => ⟨rfl, hp.below⟩)

theorem k_asked (s : StrV) (g : Int) (w : World) (hs : StrRd w s) : Calls Tryz.prog 121 #[.agg #[.slice s.Ar s.rooms.length s.cr, .slice s.Ag s.gates.length s.cg, .slice s.As s.staff.length s.cs], .int .i64 g] w (fun e w' => e = .returned (.tuple #[.agg #[.slice (askS s g).Ar (askS s g).rooms.length (askS s g).cr, .slice (askS s g).Ag (askS s g).gates.length (askS s g).cg, .slice (askS s g).As (askS s g).staff.length (askS s g).cs, .int .i64 (askG s g)], .int .i64 (askE s g)]) ∧ Grow w w') := by
  refine enter_pure (args := [.agg #[.slice s.Ar s.rooms.length s.cr, .slice s.Ag s.gates.length s.cg, .slice s.As s.staff.length s.cs], .int .i64 g]) [] Tryz.func121 rfl (by rw [Tryz.ntmps121]; simp) (by simp) ?_
  refine cj_seq (cj_region ?_)
  refine oj_box rfl rfl rfl (fun b2 => ?_)
  refine oj_alloc Tryz.zeroValue230 rfl rfl (fun b4 => ?_)
  refine oj_step (y_assign rfl) rfl rfl rfl ?_
  refine oj_nil ?_
  refine ej_th (cj_seq (cj_seq ?_))
  refine cj_regionG ?_
  refine gj_step (y_loadN Tryz.isAgg196 Tryz.sizeOf196 rfl) rfl rfl rfl (?_)
  refine gj_step (y_call Tryz.call147 rfl (fun w hp => k_Check s w (hs.mono hp.below))) rfl rfl rfl ?_
  refine gj_step (y_assign rfl) rfl rfl rfl (?_)
  refine gj_nil ?_
  refine ej_th (cj_seq ?_)
  refine cj_regionG (gj_step (y_move rfl) rfl rfl rfl (gj_step (y_neq rfl rfl) rfl rfl rfl (gj_nil ?_)))
  refine ej_th ?_
  refine cj_cond rfl (fun h10 => ?_) (fun h10 => ?_)
  · have h10b := h10
    try simp only [sxb] at h10
    have hb := (strE_f h10).1
    have h40 := (strE_f h10).2
    obtain ⟨e1, e2, e3⟩ := ask_40 (g := g) hb
    refine cj_seq (cj_region ?_)
    refine oj_step (y_build st230 rfl rfl) rfl rfl rfl ?_
    refine oj_step (y_move rfl) rfl rfl rfl ?_
    refine oj_store rfl rfl rfl rfl Tryz.sizeOf230 rfl ?_
    refine oj_step (y_assign rfl) rfl rfl rfl ?_
    refine oj_nil ?_
    refine ej_th (cj_ret (ej_then_ret ?_))
    exact ej_retC2 rfl Tryz.results121 rfl (y_loadN Tryz.isAgg230 Tryz.sizeOf230 rfl) rfl (fun w' hp => ⟨by rw [e1, e2, e3, h40]; rfl, hp.below⟩)
  · have h10b := h10
    try simp only [sxb] at h10
    have hb := strE_t (by simpa using h10)
    refine cj_skip (ej_th (cj_seq (cj_seq ?_)))
    refine cj_regionG ?_
    refine gj_step (y_move rfl) rfl rfl rfl (gj_step (y_fa fa196_2 rfl) rfl rfl rfl (gj_step (y_load1 Tryz.isAgg23 rfl rfl) rfl rfl rfl (gj_step (y_lenA Tryz.underlying23 rfl) rfl rfl rfl (?_))))
    refine gj_step (y_call Tryz.call148 rfl (fun w hp => k_set g s.staff.length w (Nat.le_trans (m := 6) (rooms_le hb).2.2.2.1 (by omega)))) rfl rfl rfl ?_
    refine gj_step (y_not rfl) rfl rfl rfl (?_)
    refine gj_nil ?_
    refine ej_th ?_
    refine cj_cond rfl (fun h18 => ?_) (fun h18 => ?_)
    · have h18b := h18
      try simp only [sxb] at h18
      obtain ⟨e1, e2, e3⟩ := ask_41 hb (not_t h18b)
      refine cj_seq (cj_region ?_)
      refine oj_step (y_build st230 rfl rfl) rfl rfl rfl ?_
      refine oj_store rfl rfl rfl rfl Tryz.sizeOf230 rfl ?_
      refine oj_step (y_assign rfl) rfl rfl rfl ?_
      refine oj_nil ?_
      refine ej_th (cj_ret (ej_then_ret ?_))
      exact ej_retC2 rfl Tryz.results121 rfl (y_loadN Tryz.isAgg230 Tryz.sizeOf230 rfl) rfl (fun w' hp => ⟨by rw [e1, e2, e3]; rfl, hp.below⟩)
    · have h18b := h18
      try simp only [sxb] at h18
      have e1 := ask_yes hb (not_f h18b)
      obtain ⟨e2, e3, _⟩ := ask_0 e1
      refine cj_skip (ej_th (cj_seq (cj_region ?_)))
      refine oj_step (y_loadN Tryz.isAgg196 Tryz.sizeOf196 rfl) rfl rfl rfl ?_
      refine oj_step (y_move rfl) rfl rfl rfl ?_
      refine oj_step (y_build (cs := [.slice s.Ar s.rooms.length s.cr, .slice s.Ag s.gates.length s.cg, .slice s.As s.staff.length s.cs, .int .i64 g]) st230 rfl (by kernel_rfl)) rfl rfl rfl ?_
      refine oj_store rfl rfl rfl rfl Tryz.sizeOf230 rfl ?_
      refine oj_step (y_assign rfl) rfl rfl rfl ?_
      refine oj_nil ?_
      refine ej_th (cj_ret ?_)
      exact ej_retC2 rfl Tryz.results121 rfl (y_loadN Tryz.isAgg230 Tryz.sizeOf230 rfl) rfl (fun w' hp => ⟨by rw [e1, e2, e3], hp.below⟩)

theorem k_Enter (s : StrV) (g : Int) (w : World) (hs : StrRd w s) : Calls Tryz.prog 94 #[.agg #[.slice s.Ar s.rooms.length s.cr, .slice s.Ag s.gates.length s.cg, .slice s.As s.staff.length s.cs], .int .i64 g] w (fun e w' => e = .returned (.tuple #[.int .i64 (EntV s g), .int .i64 (askE s g)]) ∧ Grow w w') := by
  refine enter_pure (args := [.agg #[.slice s.Ar s.rooms.length s.cr, .slice s.Ag s.gates.length s.cg, .slice s.As s.staff.length s.cs], .int .i64 g]) [] Tryz.func94 rfl (by rw [Tryz.ntmps94]; simp) (by simp) ?_
  refine cj_seq (cj_region ?_)
  refine oj_box rfl rfl rfl (fun b2 => ?_)
  refine oj_step (y_assign rfl) rfl rfl rfl ?_
  refine oj_step (y_assign rfl) rfl rfl rfl ?_
  refine oj_nil ?_
  refine ej_th (cj_seq (cj_region ?_))
  refine oj_step (y_loadN Tryz.isAgg196 Tryz.sizeOf196 rfl) rfl rfl rfl ?_
  refine oj_step (y_move rfl) rfl rfl rfl ?_
  refine oj_step (y_call Tryz.call121 rfl (fun w hp => k_asked s g w (hs.mono hp.below))) rfl rfl rfl ?_
  refine oj_step (y_move rfl) rfl rfl rfl ?_
  refine oj_step (y_extract rfl rfl) rfl rfl rfl ?_
  refine oj_step (y_extract rfl rfl) rfl rfl rfl ?_
  refine oj_alloc Tryz.zeroValue230 rfl rfl (fun b6 => ?_)
  refine oj_store rfl rfl rfl rfl Tryz.sizeOf230 rfl ?_
  refine oj_step (y_assign rfl) rfl rfl rfl ?_
  refine oj_nil ?_
  refine ej_th (cj_seq (cj_seq ?_))
  refine cj_regionG (gj_step (y_move rfl) rfl rfl rfl (gj_step (y_neq rfl rfl) rfl rfl rfl (gj_nil ?_)))
  refine ej_th ?_
  refine cj_cond rfl (fun h15 => ?_) (fun h15 => ?_)
  · have h15b := h15
    try simp only [sxb] at h15
    refine cj_seq ?_
    refine cj_regionG (gj_step (y_move rfl) rfl rfl rfl (gj_step (y_assign rfl) rfl rfl rfl (gj_step (y_assign rfl) rfl rfl rfl (gj_nil ?_))))
    refine ej_th (cj_ret (ej_then_ret ?_))
    refine ej_ret2 rfl Tryz.results94 rfl rfl (fun w' hp => ⟨?_, hp.below⟩)
    rw [EntV, if_neg h15]
  · have h15b := h15
    try simp only [sxb] at h15
    have h0 : askE s g = 0 := by simpa using h15
    obtain ⟨e2, e3, hb, hg0, hgl, hm64⟩ := ask_0 h0
    rw [e2, e3]
    obtain ⟨m, hm⟩ : ∃ m : Nat, g = m := ⟨g.toNat, by omega⟩
    subst hm
    rw [Int.toNat_natCast] at hm64 hgl
    refine cj_skip (ej_th (cj_seq ?_))
    refine cj_regionG ?_
    refine gj_step (y_loadN Tryz.isAgg230 Tryz.sizeOf230 rfl) rfl rfl rfl (?_)
    refine gj_step (y_call Tryz.call122 rfl (fun w hp => k_reach s m w (hs.mono hp.below) hb hm64)) rfl rfl rfl ?_
    refine gj_step (y_assign rfl) rfl rfl rfl (gj_step (y_assign rfl) rfl rfl rfl (?_))
    refine gj_nil ?_
    refine ej_th (cj_ret ?_)
    refine ej_ret2 rfl Tryz.results94 rfl rfl (fun w' hp => ⟨?_, hp.below⟩)
    rw [EntV, if_pos h0, h0]; rfl

end Go.Proofs.YtppfniekcgnmjaaGreat.Va
namespace Go.Proofs.YtppfniekcgnmjaaGreat.Pl
open Go.Sx Go.RowKit
set_option maxRecDepth 20000

end Go.Proofs.YtppfniekcgnmjaaGreat.Pl
namespace Go.Proofs.YtppfniekcgnmjaaGreat.Pl
open Go.Sx Go.RowKit
set_option maxRecDepth 20000

end Go.Proofs.YtppfniekcgnmjaaGreat.Pl
namespace Go.Proofs.YtppfniekcgnmjaaGreat.Pl
open Go.Sx Go.RowKit
set_option maxRecDepth 20000
theorem k_From (lo n hi : Int) (w : World)  : Calls Tryz.prog 11 #[.int .i64 lo, .int .i64 n, .int .i64 hi] w (fun e w' => e = .returned (.bool (decide (lo ≤ n) && decide (n ≤ hi))) ∧ Grow w w') := by
  refine enter_pure (args := [.int .i64 lo, .int .i64 n, .int .i64 hi]) [] Tryz.func11 rfl (by rw [Tryz.ntmps11]; simp) (by simp) ?_
  refine cj_seq ?_
  refine cj_regionG (gj_step (y_assign rfl) rfl rfl rfl (gj_nil ?_))
  refine ej_th (cj_seq ?_)
  refine cj_regionG (gj_step (y_move rfl) rfl rfl rfl (gj_step (y_move rfl) rfl rfl rfl (gj_step (y_leq rfl rfl) rfl rfl rfl (gj_step (y_move rfl) rfl rfl rfl (gj_g 3 10 13 rfl rfl rfl rfl (fun hg10 => gj_yes rfl rfl rfl (y_move rfl) rfl rfl (gj_yes rfl rfl rfl (y_move rfl) rfl rfl (gj_yes rfl rfl rfl (y_leq rfl rfl) rfl rfl (gj_nil rfl)))) (gj_step (y_and rfl rfl rfl) rfl rfl rfl (gj_step (y_assign rfl) rfl rfl rfl (gj_nil ?_))))))))
  refine ej_th (cj_ret ?_)
  exact ej_ret1 rfl Tryz.results11 rfl (fun w' hp => ⟨rfl, hp.below⟩)

end Go.Proofs.YtppfniekcgnmjaaGreat.Pl
namespace Go.Proofs.YtppfniekcgnmjaaGreat.Pl
open Go.Sx Go.RowKit
set_option maxRecDepth 20000
end Go.Proofs.YtppfniekcgnmjaaGreat.Pl
namespace Go.Proofs.YtppfniekcgnmjaaGreat.Pl
open Go.Sx Go.RowKit

abbrev smS (l : List ByteArray) : Prop := ∀ s ∈ l, s.size ≤ 9223372036854775807
abbrev evB (b : Bool) : Value := .bool b
end Go.Proofs.YtppfniekcgnmjaaGreat.Pl
namespace Go.Proofs.YtppfniekcgnmjaaGreat.Pl
open Go.Sx Go.RowKit

/-- a trait, and where its values lie -/
structure TraitV where
  name : ByteArray
  A : Option Addr
  c : Nat
  vals : List ByteArray
  must : Bool
instance : Inhabited TraitV := ⟨⟨⟨#[]⟩, none, 0, [], false⟩⟩
abbrev encTr (t : TraitV) : List Value := [.string t.name, .slice t.A t.vals.length t.c, .bool t.must]
structure GoodT (w : World) (t : TraitV) : Prop where
  rd : Rd w 1 enStr t.A t.vals
  sm : smS t.vals
  nm : t.name.size ≤ 9223372036854775807
theorem GoodT.mono {w w' : World} {t : TraitV} (h : GoodT w t) (hg : Grow w w') : GoodT w' t := ⟨h.rd.mono hg, h.sm, h.nm⟩
/-- a class, and where its traits and parts lie -/
structure ClassV where
  name : ByteArray
  At : Option Addr
  ct : Nat
  traits : List TraitV
  Ap : Option Addr
  cp : Nat
  parts : List ByteArray
  most : Int
abbrev zC : ClassV := ⟨⟨#[]⟩, none, 0, [], none, 0, [], 0⟩
instance : Inhabited ClassV := ⟨zC⟩
structure GoodC (w : World) (c : ClassV) : Prop where
  rt : Rd w 3 encTr c.At c.traits
  tr : ∀ t ∈ c.traits, GoodT w t
  rp : Rd w 1 enStr c.Ap c.parts
  sm : smS c.parts
  nm : c.name.size ≤ 9223372036854775807
theorem GoodC.mono {w w' : World} {c : ClassV} (h : GoodC w c) (hg : Grow w w') : GoodC w' c := ⟨h.rt.mono hg, fun t ht => (h.tr t ht).mono hg, h.rp.mono hg, h.sm, h.nm⟩
theorem GoodC.zero (w : World) : GoodC w zC := ⟨.nil, by simp, .nil, fun s hs => (by cases hs), by decide⟩
/-- an item, and where what is said of it and its parts lie -/
inductive ItemV where
  | mk (cls : ByteArray) (As : Option Addr) (cs : Nat) (says : List ByteArray) (Ap : Option Addr) (cp : Nat) (parts : List ItemV)
namespace ItemV
def cls : ItemV → ByteArray | mk c .. => c
def As : ItemV → Option Addr | mk _ a .. => a
def cs : ItemV → Nat | mk _ _ c .. => c
def says : ItemV → List ByteArray | mk _ _ _ s .. => s
def Ap : ItemV → Option Addr | mk _ _ _ _ a .. => a
def cp : ItemV → Nat | mk _ _ _ _ _ c _ => c
def parts : ItemV → List ItemV | mk _ _ _ _ _ _ p => p
end ItemV
instance : Inhabited ItemV := ⟨.mk ⟨#[]⟩ none 0 [] none 0 []⟩
abbrev encIt (x : ItemV) : List Value := [.string x.cls, .slice x.As x.says.length x.cs, .slice x.Ap x.parts.length x.cp]
abbrev evI (x : ItemV) : Value := .agg #[.string x.cls, .slice x.As x.says.length x.cs, .slice x.Ap x.parts.length x.cp]
inductive GoodI (w : World) : ItemV → Prop
  | mk {x : ItemV} (hs : Rd w 1 enStr x.As x.says) (hp : Rd w 3 encIt x.Ap x.parts) (hn : x.cls.size ≤ 9223372036854775807) (hm : smS x.says) (hr : ∀ p ∈ x.parts, GoodI w p) : GoodI w x
theorem GoodI.rs {w : World} {x : ItemV} (h : GoodI w x) : Rd w 1 enStr x.As x.says := by cases h; assumption
theorem GoodI.rp {w : World} {x : ItemV} (h : GoodI w x) : Rd w 3 encIt x.Ap x.parts := by cases h; assumption
theorem GoodI.sm {w : World} {x : ItemV} (h : GoodI w x) : smS x.says := by cases h; assumption
theorem GoodI.nm {w : World} {x : ItemV} (h : GoodI w x) : x.cls.size ≤ 9223372036854775807 := by cases h; assumption
theorem GoodI.mono {w w' : World} {x : ItemV} (h : GoodI w x) (hg : Grow w w') : GoodI w' x := by
  induction h with
  | mk hs hp hn hm _ ih => exact .mk (hs.mono hg) (hp.mono hg) hn hm ih

/-! ### What the program says of a grammar -/
/-! ### What the program says of a description -/
theorem getL_mem {g : List (ByteArray × ClassV)} {s : ByteArray} {c : ClassV} (h : getL g s = some c) : ∃ p ∈ g, p.2 = c := by
  induction g with
  | nil => cases h
  | cons p g ih =>
    rw [getL] at h
    split at h
    · injection h with h; exact ⟨p, by simp, h⟩
    · obtain ⟨q, hq, he⟩ := ih h; exact ⟨q, by simp [hq], he⟩
theorem putL_mem {m : List (ByteArray × ClassV)} {k : ByteArray} {c : ClassV} {p : ByteArray × ClassV} (h : p ∈ putL m k c) : p ∈ m ∨ p.2 = c := by
  induction m with
  | nil => simp only [putL, List.mem_singleton] at h; exact .inr (by rw [h])
  | cons q m ih =>
    rw [putL] at h
    split at h
    · rcases List.mem_cons.1 h with h | h
      · exact .inr (by rw [h])
      · exact .inl (List.mem_cons_of_mem _ h)
    · rcases List.mem_cons.1 h with h | h
      · exact .inl (by rw [h]; exact List.mem_cons_self ..)
      · rcases ih h with h | h
        · exact .inl (List.mem_cons_of_mem _ h)
        · exact .inr h
end Go.Proofs.YtppfniekcgnmjaaGreat.Pl
namespace Go.Proofs.YtppfniekcgnmjaaGreat.Pl
open Go.Sx Go.RowKit
set_option maxRecDepth 20000

end Go.Proofs.YtppfniekcgnmjaaGreat.Pl
namespace Go.Proofs.YtppfniekcgnmjaaGreat.Pl
open Go.Sx Go.RowKit
set_option maxRecDepth 20000
theorem k_within1 (n lo hi : Int) (w : World)  : Calls Tryz.prog 47 #[.int .i64 n, .int .i64 lo, .int .i64 hi] w (fun e w' => e = .returned (.bool (decide (lo ≤ n) && decide (n ≤ hi))) ∧ Grow w w') := by
  refine enter_pure (args := [.int .i64 n, .int .i64 lo, .int .i64 hi]) [] Tryz.func47 rfl (by rw [Tryz.ntmps47]; simp) (by simp) ?_
  refine cj_seq ?_
  refine cj_regionG (gj_step (y_assign rfl) rfl rfl rfl (gj_nil ?_))
  refine ej_th (cj_seq ?_)
  refine cj_regionG (gj_step (y_move rfl) rfl rfl rfl (gj_step (y_move rfl) rfl rfl rfl (gj_step (y_geq rfl rfl) rfl rfl rfl (gj_step (y_move rfl) rfl rfl rfl (gj_g 3 10 13 rfl rfl rfl rfl (fun hg10 => gj_yes rfl rfl rfl (y_move rfl) rfl rfl (gj_yes rfl rfl rfl (y_move rfl) rfl rfl (gj_yes rfl rfl rfl (y_leq rfl rfl) rfl rfl (gj_nil rfl)))) (gj_step (y_and rfl rfl rfl) rfl rfl rfl (gj_step (y_assign rfl) rfl rfl rfl (gj_nil ?_))))))))
  refine ej_th (cj_ret ?_)
  exact ej_ret1 rfl Tryz.results47 rfl (fun w' hp => ⟨rfl, hp.below⟩)

end Go.Proofs.YtppfniekcgnmjaaGreat.Pl
namespace Go.Proofs.YtppfniekcgnmjaaGreat.Pl
open Go.Sx Go.RowKit
set_option maxRecDepth 20000
theorem fa105_0 : FieldIs Tryz.prog 105 0 0 1 false := ⟨⟨_, _, Tryz.underlying105, rfl, rfl, Tryz.sizeOf3, Tryz.isAgg3, by decide⟩⟩
theorem fa105_1 : FieldIs Tryz.prog 105 1 1 1 false := ⟨⟨_, _, Tryz.underlying105, rfl, rfl, Tryz.sizeOf3, Tryz.isAgg3, by decide⟩⟩
theorem fa52_0 : FieldIs Tryz.prog 52 0 0 1 false := ⟨⟨_, _, Tryz.underlying52, rfl, rfl, Tryz.sizeOf50, Tryz.isAgg50, by decide⟩⟩
theorem fa91_0 : FieldIs Tryz.prog 91 0 0 1 false := ⟨⟨_, _, Tryz.underlying91, rfl, rfl, Tryz.sizeOf3, Tryz.isAgg3, by decide⟩⟩
theorem fa91_1 : FieldIs Tryz.prog 91 1 1 1 false := ⟨⟨_, _, Tryz.underlying91, rfl, rfl, Tryz.sizeOf3, Tryz.isAgg3, by decide⟩⟩
end Go.Proofs.YtppfniekcgnmjaaGreat.Pl
namespace Go.Proofs.YtppfniekcgnmjaaGreat.Pl
open Go.Sx Go.RowKit
set_option maxRecDepth 20000
theorem k_clR (n : Int) (w : World)  : Calls Tryz.prog 77 #[.int .i64 n] w (fun e w' => e = .returned (.bool (!(rd1 n))) ∧ Grow w w') := by
  refine enter_pure (args := [.int .i64 n]) [] Tryz.func77 rfl (by rw [Tryz.ntmps77]; simp) (by simp) ?_
  refine cj_seq ?_
  refine cj_regionG (gj_step (y_assign rfl) rfl rfl rfl (gj_nil ?_))
  refine ej_th (cj_seq ?_)
  refine cj_regionG ?_
  refine gj_step (y_move rfl) rfl rfl rfl (?_)
  refine gj_step (y_call Tryz.call47 rfl (fun w hp => k_within1 _ _ _ w)) rfl rfl rfl ?_
  refine gj_step (y_not rfl) rfl rfl rfl (gj_step (y_assign rfl) rfl rfl rfl (?_))
  refine gj_nil ?_
  refine ej_th (cj_ret ?_)
  exact ej_ret1 rfl Tryz.results77 rfl (fun w' hp => ⟨rfl, hp.below⟩)

theorem k_IndexFR (l : List Int) (A : Option Addr) (c : Nat) (w : World) (hl : Rd w 1 enInt A l) : Calls Tryz.prog 101 #[.slice A l.length c, .func (.func 77) #[] #[]] w (fun e w' => e = .returned (.int .i64 (firstBad l 0)) ∧ Grow w w') := by
  have hlen := hl.len
  refine enter_pure (args := [.slice A l.length c, .func (.func 77) #[] #[]]) [sl (fun b => b < w.heap.size) 1 enInt A l] Tryz.func101 rfl (by rw [Tryz.ntmps101]; simp) (fun g hg => by simp at hg; subst hg; exact ⟨hl, fun _ h => h⟩) ?_
  refine cj_seq ?_
  refine cj_regionG (gj_step (y_assign rfl) rfl rfl rfl (gj_nil ?_))
  refine ej_th (cj_seq (cj_seq ?_))
  refine cj_regionG (gj_step (y_move rfl) rfl rfl rfl (gj_step (y_lenA Tryz.underlying23 rfl) rfl rfl rfl (gj_step (y_move rfl) rfl rfl rfl (gj_nil ?_))))
  refine ej_th (cj_block ?_)
  refine cj_lpic (X := Nat) [(0, _), (1, _), (7, _)] (fun k => k ≤ l.length ∧ firstBad (l.drop k) k = firstBad l 0) (fun k => [(8, .int .i64 k)]) (fun k => l.length - k) 0 (⟨Nat.zero_le _, rfl⟩) ⟨rfl, rfl, rfl, rfl, trivial⟩ ?_
  rintro k ⟨hk, hsk⟩
  dsimp only [List.cons_append, List.nil_append]
  refine cj_seq ?_
  refine cj_regionG (gj_step (y_lss rfl rfl) rfl rfl rfl (gj_nil ?_))
  refine ej_th (cj_seq ?_)
  refine cj_cond rfl (fun h9 => ?_) (fun h9 => ?_)
  · have h9b := h9
    try simp only [sxb] at h9
    obtain ⟨x, hx⟩ : ∃ x, l[k]? = some x := ⟨_, List.getElem?_eq_getElem (by omega)⟩
    rw [firstBad_drop l k x hx] at hsk
    refine cj_skip (ej_th (cj_seq (cj_block (cj_seq ?_))))
    refine cj_regionG (gj_step (y_move rfl) rfl rfl rfl (gj_step (y_assign rfl) rfl rfl rfl (gj_nil ?_)))
    refine ej_th (cj_seq ?_)
    refine cj_regionG ?_
    refine gj_step (y_move rfl) rfl rfl rfl (gj_step (y_move rfl) rfl rfl rfl (gj_step (y_move rfl) rfl rfl rfl (gj_step (y_ixR (reads_sl) Tryz.underlying23 Tryz.sizeOf3 rfl rfl (⟨by omega, by omega⟩)) rfl rfl rfl (gj_step (y_ld0 (reads_sl) Tryz.isAgg3 rfl (hx) rfl) rfl rfl rfl (?_)))))
    refine gj_step (y_callV Tryz.call77 rfl rfl (fun w hp => k_clR x w)) rfl rfl rfl ?_
    refine gj_nil ?_
    refine ej_th ?_
    refine cj_cond rfl (fun h16 => ?_) (fun h16 => ?_)
    · have h16b := h16
      try simp only [sxb] at h16
      refine cj_seq ?_
      refine cj_regionG (gj_step (y_move rfl) rfl rfl rfl (gj_step (y_assign rfl) rfl rfl rfl (gj_nil ?_)))
      refine ej_th (cj_ret (ej_blk_ret (ej_then_ret (ej_then_ret (ej_blk_ret (ej_then_ret ?_))))))
      refine ej_ret1 rfl Tryz.results101 rfl (fun w' hp => ⟨?_, hp.below⟩)
      rw [← hsk, if_pos h16]
    · have h16b := h16
      try simp only [sxb] at h16
      refine cj_skip (ej_blk (ej_th ?_))
      refine cj_regionG (gj_step (y_add rfl rfl (by omega)) rfl rfl rfl (gj_step (y_move rfl) rfl rfl rfl (gj_nil ?_)))
      exact ej_nx (k + 1) (by omega) ⟨by omega, by rw [← hsk, if_neg (by simp [h16])]⟩ ⟨rfl, rfl, rfl, rfl, trivial⟩
  · have h9b := h9
    try simp only [sxb] at h9
    refine cj_exit (ej_then_exit (ej_then_exit (ej_blk_hit (ej_th (cj_seq ?_)))))
    refine cj_regionG (gj_step (y_assign rfl) rfl rfl rfl (gj_nil ?_))
    refine ej_th (cj_ret ?_)
    refine ej_ret1 rfl Tryz.results101 rfl (fun w' hp => ⟨?_, hp.below⟩)
    rw [← hsk, List.drop_of_length_le (by omega)]; rfl

theorem k_ContainsFR (l : List Int) (A : Option Addr) (c : Nat) (w : World) (hl : Rd w 1 enInt A l) : Calls Tryz.prog 76 #[.slice A l.length c, .func (.func 77) #[] #[]] w (fun e w' => e = .returned (.bool (!(l.all rd1))) ∧ Grow w w') := by
  refine enter_pure (args := [.slice A l.length c, .func (.func 77) #[] #[]]) [sl (fun b => b < w.heap.size) 1 enInt A l] Tryz.func76 rfl (by rw [Tryz.ntmps76]; simp) (fun g hg => by simp at hg; subst hg; exact ⟨hl, fun _ h => h⟩) ?_
  refine cj_seq ?_
  refine cj_regionG (gj_step (y_assign rfl) rfl rfl rfl (gj_nil ?_))
  refine ej_th (cj_seq ?_)
  refine cj_regionG ?_
  refine gj_step (y_move rfl) rfl rfl rfl (gj_step (y_move rfl) rfl rfl rfl (?_))
  refine gj_step (y_call Tryz.call101 rfl (fun w hp => k_IndexFR l A c w hp.rd)) rfl rfl rfl ?_
  refine gj_step (y_geq rfl rfl) rfl rfl rfl (gj_step (y_assign rfl) rfl rfl rfl (?_))
  refine gj_nil ?_
  refine ej_th (cj_ret ?_)
  refine ej_ret1 rfl Tryz.results76 rfl (fun w' hp => ⟨?_, hp.below⟩)
  rw [firstBad_all]

theorem k_IndexI (l : List Int) (A : Option Addr) (c : Nat) (n : Int) (w : World) (hl : Rd w 1 enInt A l) : Calls Tryz.prog 97 #[.slice A l.length c, .int .i64 n] w (fun e w' => e = .returned (.int .i64 (seek l n 0)) ∧ Grow w w') := by
  have hlen := hl.len
  refine enter_pure (args := [.slice A l.length c, .int .i64 n]) [sl (fun b => b < w.heap.size) 1 enInt A l] Tryz.func97 rfl (by rw [Tryz.ntmps97]; simp) (fun g hg => by simp at hg; subst hg; exact ⟨hl, fun _ h => h⟩) ?_
  refine cj_seq ?_
  refine cj_regionG (gj_step (y_assign rfl) rfl rfl rfl (gj_nil ?_))
  refine ej_th (cj_seq (cj_seq ?_))
  refine cj_regionG (gj_step (y_move rfl) rfl rfl rfl (gj_step (y_lenA Tryz.underlying23 rfl) rfl rfl rfl (gj_step (y_move rfl) rfl rfl rfl (gj_nil ?_))))
  refine ej_th (cj_block ?_)
  refine cj_lpic (X := Nat) [(0, _), (1, _), (7, _)] (fun k => k ≤ l.length ∧ seek (l.drop k) n k = seek l n 0) (fun k => [(8, .int .i64 k)]) (fun k => l.length - k) 0 (⟨Nat.zero_le _, rfl⟩) ⟨rfl, rfl, rfl, rfl, trivial⟩ ?_
  rintro k ⟨hk, hsk⟩
  dsimp only [List.cons_append, List.nil_append]
  refine cj_seq ?_
  refine cj_regionG (gj_step (y_lss rfl rfl) rfl rfl rfl (gj_nil ?_))
  refine ej_th (cj_seq ?_)
  refine cj_cond rfl (fun h9 => ?_) (fun h9 => ?_)
  · have h9b := h9
    try simp only [sxb] at h9
    obtain ⟨x, hx⟩ : ∃ x, l[k]? = some x := ⟨_, List.getElem?_eq_getElem (by omega)⟩
    rw [seek_drop l n k x hx] at hsk
    refine cj_skip (ej_th (cj_seq (cj_block (cj_seq ?_))))
    refine cj_regionG (gj_step (y_move rfl) rfl rfl rfl (gj_step (y_assign rfl) rfl rfl rfl (gj_nil ?_)))
    refine ej_th (cj_seq ?_)
    refine cj_regionG (gj_step (y_move rfl) rfl rfl rfl (gj_step (y_move rfl) rfl rfl rfl (gj_step (y_move rfl) rfl rfl rfl (gj_step (y_ixR (reads_sl) Tryz.underlying23 Tryz.sizeOf3 rfl rfl (⟨by omega, by omega⟩)) rfl rfl rfl (gj_step (y_ld0 (reads_sl) Tryz.isAgg3 rfl (hx) rfl) rfl rfl rfl (gj_step (y_eql rfl rfl) rfl rfl rfl (gj_nil ?_)))))))
    refine ej_th ?_
    refine cj_cond rfl (fun h16 => ?_) (fun h16 => ?_)
    · have h16b := h16
      try simp only [sxb] at h16
      refine cj_seq ?_
      refine cj_regionG (gj_step (y_move rfl) rfl rfl rfl (gj_step (y_assign rfl) rfl rfl rfl (gj_nil ?_)))
      refine ej_th (cj_ret (ej_blk_ret (ej_then_ret (ej_then_ret (ej_blk_ret (ej_then_ret ?_))))))
      refine ej_ret1 rfl Tryz.results97 rfl (fun w' hp => ⟨?_, hp.below⟩)
      rw [← hsk, if_pos h16.symm]
    · have h16b := h16
      try simp only [sxb] at h16
      refine cj_skip (ej_blk (ej_th ?_))
      refine cj_regionG (gj_step (y_add rfl rfl (by omega)) rfl rfl rfl (gj_step (y_move rfl) rfl rfl rfl (gj_nil ?_)))
      exact ej_nx (k + 1) (by omega) ⟨by omega, by rw [← hsk, if_neg (fun e => h16 e.symm)]⟩ ⟨rfl, rfl, rfl, rfl, trivial⟩
  · have h9b := h9
    try simp only [sxb] at h9
    refine cj_exit (ej_then_exit (ej_then_exit (ej_blk_hit (ej_th (cj_seq ?_)))))
    refine cj_regionG (gj_step (y_assign rfl) rfl rfl rfl (gj_nil ?_))
    refine ej_th (cj_ret ?_)
    refine ej_ret1 rfl Tryz.results97 rfl (fun w' hp => ⟨?_, hp.below⟩)
    rw [← hsk, List.drop_of_length_le (by omega)]; rfl

theorem k_ContainsI (l : List Int) (A : Option Addr) (c : Nat) (n : Int) (w : World) (hl : Rd w 1 enInt A l) : Calls Tryz.prog 68 #[.slice A l.length c, .int .i64 n] w (fun e w' => e = .returned (.bool (hasI l n)) ∧ Grow w w') := by
  refine enter_pure (args := [.slice A l.length c, .int .i64 n]) [sl (fun b => b < w.heap.size) 1 enInt A l] Tryz.func68 rfl (by rw [Tryz.ntmps68]; simp) (fun g hg => by simp at hg; subst hg; exact ⟨hl, fun _ h => h⟩) ?_
  refine cj_seq ?_
  refine cj_regionG (gj_step (y_assign rfl) rfl rfl rfl (gj_nil ?_))
  refine ej_th (cj_seq ?_)
  refine cj_regionG ?_
  refine gj_step (y_move rfl) rfl rfl rfl (gj_step (y_move rfl) rfl rfl rfl (?_))
  refine gj_step (y_call Tryz.call97 rfl (fun w hp => k_IndexI _ _ _ _ w hp.rd)) rfl rfl rfl ?_
  refine gj_step (y_geq rfl rfl) rfl rfl rfl (gj_step (y_assign rfl) rfl rfl rfl (?_))
  refine gj_nil ?_
  refine ej_th (cj_ret ?_)
  refine ej_ret1 rfl Tryz.results68 rfl (fun w' hp => ⟨?_, hp.below⟩)
  rw [← seekI l n 0]; rfl

theorem k_CheckM (ms : List Meas) (A : Option Addr) (c : Nat) (w : World) (hm : Rd w 2 encMe A ms) : Calls Tryz.prog 45 #[.slice A ms.length c] w (fun e w' => e = .returned (.int .i64 (measE ms)) ∧ Grow w w') := by
  have hlen := hm.len
  refine enter_pure (args := [.slice A ms.length c]) [sl (fun b => b < w.heap.size) 2 encMe A ms] Tryz.func45 rfl (by rw [Tryz.ntmps45]; simp) (fun g hg => by simp at hg; subst hg; exact ⟨hm, fun _ h => h⟩) ?_
  refine cj_seq ?_
  refine cj_regionG (gj_step (y_assign rfl) rfl rfl rfl (gj_nil ?_))
  refine ej_th (cj_seq (cj_seq ?_))
  refine cj_regionG ?_
  refine gj_step (y_move rfl) rfl rfl rfl (gj_step (y_lenA Tryz.underlying39 rfl) rfl rfl rfl (?_))
  refine gj_step (y_call Tryz.call47 rfl (fun w hp => k_within1 _ _ _ w)) rfl rfl rfl ?_
  refine gj_step (y_not rfl) rfl rfl rfl (?_)
  refine gj_nil ?_
  refine ej_th ?_
  refine cj_cond rfl (fun h8 => ?_) (fun h8 => ?_)
  · have h8b := h8
    try simp only [sxb] at h8
    refine cj_seq ?_
    refine cj_regionG (gj_step (y_assign rfl) rfl rfl rfl (gj_nil ?_))
    refine ej_th (cj_ret (ej_then_ret ?_))
    refine ej_ret1 rfl Tryz.results45 rfl (fun w' hp => ⟨?_, hp.below⟩)
    rw [measE, show measOk ms = false by rw [measOk, show btw 1 ms.length 8 = false from not_t h8b]; rfl]; rfl
  · have h8b := h8
    try simp only [sxb] at h8
    refine cj_skip (ej_th (cj_seq (cj_seq ?_)))
    refine cj_regionG (gj_step (y_move rfl) rfl rfl rfl (gj_step (y_lenA Tryz.underlying39 rfl) rfl rfl rfl (gj_step (y_move rfl) rfl rfl rfl (gj_nil ?_))))
    refine ej_th (cj_block ?_)
    refine cj_lpic (X := Nat) [(9, _), (10, _)] (fun k => k ≤ ms.length ∧ (ms.drop k).all meas1 = ms.all meas1) (fun k => [(11, .int .i64 k)]) (fun k => ms.length - k) 0 (⟨Nat.zero_le _, rfl⟩) ⟨rfl, rfl, rfl, trivial⟩ ?_
    rintro k ⟨hk, hsk⟩
    dsimp only [List.cons_append, List.nil_append]
    refine cj_seq ?_
    refine cj_regionG (gj_step (y_lss rfl rfl) rfl rfl rfl (gj_nil ?_))
    refine ej_th (cj_seq ?_)
    refine cj_cond rfl (fun h12 => ?_) (fun h12 => ?_)
    · have h12b := h12
      try simp only [sxb] at h12
      obtain ⟨m, hx⟩ : ∃ m, ms[k]? = some m := ⟨_, List.getElem?_eq_getElem (by omega)⟩
      rw [all_drop meas1 ms k m hx] at hsk
      refine cj_skip (ej_th (cj_seq (cj_block (cj_seq (cj_region ?_)))))
      refine oj_step (y_ixR (reads_sl) Tryz.underlying39 Tryz.sizeOf91 rfl rfl (⟨by omega, by omega⟩)) rfl rfl rfl ?_
      refine oj_step (y_ldW (reads_sl) Tryz.isAgg91 Tryz.sizeOf91 rfl (hx) (fun _ => rfl)) rfl rfl rfl ?_
      refine oj_alloc Tryz.zeroValue91 rfl rfl (fun b4 => ?_)
      refine oj_store rfl rfl rfl rfl Tryz.sizeOf91 rfl ?_
      refine oj_nil ?_
      refine ej_th (cj_seq ?_)
      refine cj_regionG ?_
      refine gj_step (y_fa0 fa91_0 rfl) rfl rfl rfl (gj_step (y_load1 Tryz.isAgg3 rfl rfl) rfl rfl rfl (?_))
      refine gj_step (y_call Tryz.call47 rfl (fun w hp => k_within1 _ _ _ w)) rfl rfl rfl ?_
      refine gj_step (y_not rfl) rfl rfl rfl (gj_step (y_move rfl) rfl rfl rfl (?_))
      refine gj_g 4 19 23 rfl rfl rfl rfl (fun hg19 => gj_yes rfl rfl rfl (y_fa fa91_1 rfl) rfl rfl (gj_yes rfl rfl rfl (y_load1 Tryz.isAgg3 rfl rfl) rfl rfl (gj_yes rfl rfl rfl (y_call Tryz.call47 rfl (fun w hp => k_within1 _ _ _ w)) rfl rfl (gj_yes rfl rfl rfl (y_not rfl) rfl rfl (gj_nil rfl))))) ?_
      refine gj_step (y_or rfl rfl rfl) rfl rfl rfl (?_)
      refine gj_nil ?_
      refine ej_th ?_
      refine cj_cond rfl (fun h24 => ?_) (fun h24 => ?_)
      · have h24b := h24
        try simp only [sxb] at h24
        refine cj_seq ?_
        refine cj_regionG (gj_step (y_assign rfl) rfl rfl rfl (gj_nil ?_))
        refine ej_th (cj_ret (ej_blk_ret (ej_then_ret (ej_then_ret (ej_blk_ret (ej_then_ret ?_))))))
        refine ej_ret1 rfl Tryz.results45 rfl (fun w' hp => ⟨?_, hp.below⟩)
        rw [measE, show measOk ms = false by rw [measOk, ← hsk, not_t ((meas1_V m).symm.trans h24b)]; simp]; rfl
      · have h24b := h24
        try simp only [sxb] at h24
        refine cj_skip (ej_blk (ej_th ?_))
        refine cj_regionG (gj_step (y_add rfl rfl (by omega)) rfl rfl rfl (gj_step (y_move rfl) rfl rfl rfl (gj_nil ?_)))
        exact ej_nx (k + 1) (by omega) ⟨by omega, by rw [← hsk, not_f ((meas1_V m).symm.trans h24b), Bool.true_and]⟩ ⟨rfl, rfl, rfl, trivial⟩
    · have h12b := h12
      try simp only [sxb] at h12
      refine cj_exit (ej_then_exit (ej_then_exit (ej_blk_hit (ej_th (cj_seq ?_)))))
      refine cj_regionG (gj_step (y_assign rfl) rfl rfl rfl (gj_nil ?_))
      refine ej_th (cj_ret ?_)
      refine ej_ret1 rfl Tryz.results45 rfl (fun w' hp => ⟨?_, hp.below⟩)
      rw [measE, show measOk ms = true by rw [measOk, show btw 1 ms.length 8 = true from not_f h8b, ← hsk, List.drop_of_length_le (by omega)]; rfl]; rfl

theorem k_readings (ms : List Meas) (A : Option Addr) (c : Nat) (ls : List ListV) (B : Option Addr) (d : Nat) (w : World) (hl : Rd w 1 encLs B ls) (hgl : ∀ r ∈ ls, GoodL w r) : Calls Tryz.prog 46 #[.slice A ms.length c, .slice B ls.length d] w (fun e w' => e = .returned (.int .i64 (rdsE ms.length ls)) ∧ Grow w w') := by
  have hlen := hl.len
  refine enter_pure (args := [.slice A ms.length c, .slice B ls.length d]) [sl (fun b => b < w.heap.size) 1 encLs B ls] Tryz.func46 rfl (by rw [Tryz.ntmps46]; simp) (fun g hg => by simp at hg; subst hg; exact ⟨hl, fun _ h => h⟩) ?_
  refine cj_seq ?_
  refine cj_regionG (gj_step (y_assign rfl) rfl rfl rfl (gj_nil ?_))
  refine ej_th (cj_seq (cj_seq ?_))
  refine cj_regionG (gj_step (y_move rfl) rfl rfl rfl (gj_step (y_lenA Tryz.underlying128 rfl) rfl rfl rfl (gj_step (y_move rfl) rfl rfl rfl (gj_nil ?_))))
  refine ej_th (cj_block ?_)
  refine cj_lpic (X := Nat) [(0, _), (7, _), (8, _)] (fun k => k ≤ ls.length ∧ (ls.drop k).all (rdOkV ms.length) = ls.all (rdOkV ms.length)) (fun k => [(9, .int .i64 k)]) (fun k => ls.length - k) 0 (⟨Nat.zero_le _, rfl⟩) ⟨rfl, rfl, rfl, rfl, trivial⟩ ?_
  rintro k ⟨hk, hsk⟩
  dsimp only [List.cons_append, List.nil_append]
  refine cj_seq ?_
  refine cj_regionG (gj_step (y_lss rfl rfl) rfl rfl rfl (gj_nil ?_))
  refine ej_th (cj_seq ?_)
  refine cj_cond rfl (fun h10 => ?_) (fun h10 => ?_)
  · have h10b := h10
    try simp only [sxb] at h10
    obtain ⟨r, hx⟩ : ∃ r, ls[k]? = some r := ⟨_, List.getElem?_eq_getElem (by omega)⟩
    rw [all_drop (rdOkV ms.length) ls k r hx] at hsk
    have hgr := hgl r (List.mem_of_getElem? hx)
    have hl2 := hgr.len
    refine cj_rd hgr (fun _ h => h) ?_
    refine cj_skip (ej_th (cj_seq (cj_block (cj_seq ?_))))
    refine cj_regionG (gj_step (y_ixR (reads_sl) Tryz.underlying128 Tryz.sizeOf23 rfl rfl (⟨by omega, by omega⟩)) rfl rfl rfl (gj_step (y_ld0 (reads_sl) Tryz.isAgg23 rfl (hx) rfl) rfl rfl rfl (gj_step (y_assign rfl) rfl rfl rfl (gj_nil ?_))))
    refine ej_th (cj_seq ?_)
    refine cj_regionG ?_
    refine gj_step (y_move rfl) rfl rfl rfl (gj_step (y_lenA Tryz.underlying23 rfl) rfl rfl rfl (gj_step (y_move rfl) rfl rfl rfl (gj_step (y_lenA Tryz.underlying39 rfl) rfl rfl rfl (gj_step (y_neq rfl rfl) rfl rfl rfl (gj_step (y_move rfl) rfl rfl rfl (?_))))))
    refine gj_g 2 18 20 rfl rfl rfl rfl (fun hg18 => gj_yes rfl rfl rfl (y_move rfl) rfl rfl (gj_yes rfl rfl rfl (y_call Tryz.call76 rfl (fun w hp => k_ContainsFR r.l _ _ w hp.rd)) rfl rfl (gj_nil rfl))) ?_
    refine gj_step (y_or rfl rfl rfl) rfl rfl rfl (?_)
    refine gj_nil ?_
    refine ej_th ?_
    refine cj_cond rfl (fun h21 => ?_) (fun h21 => ?_)
    · have h21b := h21
      try simp only [sxb] at h21
      refine cj_seq ?_
      refine cj_regionG (gj_step (y_assign rfl) rfl rfl rfl (gj_nil ?_))
      refine ej_th (cj_ret (ej_blk_ret (ej_then_ret (ej_then_ret (ej_blk_ret (ej_then_ret ?_))))))
      refine ej_ret1 rfl Tryz.results46 rfl (fun w' hp => ⟨?_, hp.below⟩)
      rw [rdsE, ← hsk, show rdOkV ms.length r = false from not_t ((rd_V _ _ _).symm.trans h21b)]; rfl
    · have h21b := h21
      try simp only [sxb] at h21
      refine cj_skip (ej_blk (ej_th ?_))
      refine cj_regionG (gj_step (y_add rfl rfl (by omega)) rfl rfl rfl (gj_step (y_move rfl) rfl rfl rfl (gj_nil ?_)))
      exact ej_nx (k + 1) (by omega) ⟨by omega, by rw [← hsk, show rdOkV ms.length r = true from not_f ((rd_V _ _ _).symm.trans h21b), Bool.true_and]⟩ ⟨rfl, rfl, rfl, rfl, trivial⟩
  · have h10b := h10
    try simp only [sxb] at h10
    refine cj_exit (ej_then_exit (ej_then_exit (ej_blk_hit (ej_th (cj_seq ?_)))))
    refine cj_regionG (gj_step (y_assign rfl) rfl rfl rfl (gj_nil ?_))
    refine ej_th (cj_ret ?_)
    refine ej_ret1 rfl Tryz.results46 rfl (fun w' hp => ⟨?_, hp.below⟩)
    rw [rdsE, ← hsk, List.drop_of_length_le (by omega)]; rfl

theorem k_skill (ms : List Meas) (A : Option Addr) (c : Nat) (tk : List Int) (At : Option Addr) (ct : Nat) (fs : List FakeV) (Af : Option Addr) (cf : Nat) (w : World) (hm : Rd w 2 encMe A ms) (ht : Rd w 1 enInt At tk) (hf : Rd w 1 encFk Af fs) (hgf : ∀ f ∈ fs, GoodK w f) : Calls Tryz.prog 36 #[.slice A ms.length c, .slice At tk.length ct, .slice Af fs.length cf] w (fun e w' => e = .returned (.int .i64 (skillE ms tk fs)) ∧ Grow w w') := by
  have hlm := hm.len
  have hlf := hf.len
  refine enter_pure (args := [.slice A ms.length c, .slice At tk.length ct, .slice Af fs.length cf]) [sl (fun b => b < w.heap.size) 2 encMe A ms, sl (fun b => b < w.heap.size) 1 enInt At tk, sl (fun b => b < w.heap.size) 1 encFk Af fs] Tryz.func36 rfl (by rw [Tryz.ntmps36]; simp) (fun g hg => by simp at hg; rcases hg with rfl | rfl | rfl; exact ⟨hm, fun _ h => h⟩; exact ⟨ht, fun _ h => h⟩; exact ⟨hf, fun _ h => h⟩) ?_
  refine cj_seq ?_
  refine cj_regionG (gj_step (y_assign rfl) rfl rfl rfl (gj_nil ?_))
  refine ej_th (cj_seq (cj_seq ?_))
  refine cj_regionG ?_
  refine gj_step (y_move rfl) rfl rfl rfl (?_)
  refine gj_step (y_call Tryz.call45 rfl (fun w hp => k_CheckM _ _ _ w hp.rd)) rfl rfl rfl ?_
  refine gj_step (y_assign rfl) rfl rfl rfl (?_)
  refine gj_nil ?_
  refine ej_th (cj_seq ?_)
  refine cj_regionG (gj_step (y_move rfl) rfl rfl rfl (gj_step (y_neq rfl rfl) rfl rfl rfl (gj_nil ?_)))
  refine ej_th ?_
  refine cj_cond rfl (fun h16 => ?_) (fun h16 => ?_)
  · have h16b := h16
    try simp only [sxb] at h16
    have hno := meas_no h16b
    refine cj_seq ?_
    refine cj_regionG (gj_step (y_move rfl) rfl rfl rfl (gj_step (y_assign rfl) rfl rfl rfl (gj_nil ?_)))
    refine ej_th (cj_ret (ej_then_ret ?_))
    refine ej_ret1 rfl Tryz.results36 rfl (fun w' hp => ⟨?_, hp.below⟩)
    rw [skillE, measE, hno]; rfl
  · have h16b := h16
    try simp only [sxb] at h16
    have hmo := meas_0 h16b
    obtain ⟨hml, hmb⟩ := meas_bd hmo
    refine cj_skip (ej_th (cj_seq (cj_seq (cj_region ?_))))
    refine oj_step (y_move rfl) rfl rfl rfl ?_
    refine oj_step (y_move rfl) rfl rfl rfl ?_
    refine oj_buildSlice (cs := [.slice At tk.length ct]) [.slice none 0 0] Tryz.underlying128 Tryz.sizeOf23 Tryz.zeroValue23 rfl rfl (by kernel_rfl) (by kernel_rfl) rfl (fun b20 => ?_)
    refine oj_step (y_call Tryz.call46 rfl (fun w hp => k_readings ms A c [⟨At, ct, tk⟩] (some ⟨b20, 0, none⟩) 1 w (hp.rdLit (sz := 1) (enc := encLs) [⟨At, ct, tk⟩] (fun _ => rfl) rfl (by unfold maxLen; simp)) (fun r hr => by rw [List.mem_singleton.1 hr]; exact ht.mono hp.below))) rfl rfl rfl ?_
    refine oj_step (y_assign rfl) rfl rfl rfl ?_
    refine oj_nil ?_
    refine ej_th (cj_seq ?_)
    refine cj_regionG (gj_step (y_move rfl) rfl rfl rfl (gj_step (y_neq rfl rfl) rfl rfl rfl (gj_nil ?_)))
    refine ej_th ?_
    refine cj_cond rfl (fun h23 => ?_) (fun h23 => ?_)
    · have h23b := h23
      try simp only [sxb] at h23
      have hno : rdOk ms.length tk = false := by have := rds_no h23b; simpa [rdOkV] using this
      refine cj_seq ?_
      refine cj_regionG (gj_step (y_move rfl) rfl rfl rfl (gj_step (y_assign rfl) rfl rfl rfl (gj_nil ?_)))
      refine ej_th (cj_ret (ej_then_ret ?_))
      refine ej_ret1 rfl Tryz.results36 rfl (fun w' hp => ⟨?_, hp.below⟩)
      rw [skillE, hmo, if_pos rfl, hno, rdsE, show [(⟨At, ct, tk⟩ : ListV)].all (rdOkV ms.length) = false by simpa [rdOkV] using hno]; rfl
    · have h23b := h23
      try simp only [sxb] at h23
      have hto : rdOk ms.length tk = true := by have := rds_0 h23b; simpa [rdOkV] using this
      refine cj_skip (ej_th (cj_seq (cj_seq ?_)))
      refine cj_regionG (gj_step (y_move rfl) rfl rfl rfl (gj_step (y_lenA Tryz.underlying40 rfl) rfl rfl rfl (gj_step (y_gtr rfl rfl) rfl rfl rfl (gj_nil ?_))))
      refine ej_th ?_
      refine cj_cond rfl (fun h27 => ?_) (fun h27 => ?_)
      · have h27b := h27
        try simp only [sxb] at h27
        refine cj_seq ?_
        refine cj_regionG (gj_step (y_assign rfl) rfl rfl rfl (gj_nil ?_))
        refine ej_th (cj_ret (ej_then_ret ?_))
        refine ej_ret1 rfl Tryz.results36 rfl (fun w' hp => ⟨?_, hp.below⟩)
        rw [skillE, hmo, hto, if_pos rfl, if_pos rfl, show fakesOk ms.length fs = false by rw [fakesOk, decide_eq_false (by omega)]; rfl]; rfl
      · have h27b := h27
        try simp only [sxb] at h27
        refine cj_skip (ej_th (cj_seq (cj_seq ?_)))
        refine cj_regionG (gj_step (y_move rfl) rfl rfl rfl (gj_step (y_lenA Tryz.underlying40 rfl) rfl rfl rfl (gj_step (y_move rfl) rfl rfl rfl (gj_nil ?_))))
        refine ej_th (cj_block ?_)
        refine cj_lpic (X := Nat) [(0, _), (28, _), (29, _)] (fun k => k ≤ fs.length ∧ (fs.drop k).all (fake1 ms.length) = fs.all (fake1 ms.length)) (fun k => [(30, .int .i64 k)]) (fun k => fs.length - k) 0 (⟨Nat.zero_le _, rfl⟩) ⟨rfl, rfl, rfl, rfl, trivial⟩ ?_
        rintro k ⟨hk, hsk⟩
        dsimp only [List.cons_append, List.nil_append]
        refine cj_seq ?_
        refine cj_regionG (gj_step (y_lss rfl rfl) rfl rfl rfl (gj_nil ?_))
        refine ej_th (cj_seq ?_)
        refine cj_cond rfl (fun h31 => ?_) (fun h31 => ?_)
        · have h31b := h31
          try simp only [sxb] at h31
          obtain ⟨f, hx⟩ : ∃ f, fs[k]? = some f := ⟨_, List.getElem?_eq_getElem (by omega)⟩
          rw [all_drop (fake1 ms.length) fs k f hx] at hsk
          have hgr := hgf f (List.mem_of_getElem? hx)
          have hl2 := hgr.len
          refine cj_rd hgr (fun _ h => h) ?_
          refine cj_skip (ej_th (cj_seq (cj_block (cj_seq (cj_region ?_)))))
          refine oj_step (y_ixR (reads_sl) Tryz.underlying40 Tryz.sizeOf52 rfl rfl (⟨by omega, by omega⟩)) rfl rfl rfl ?_
          refine oj_step (y_ldW (reads_sl) Tryz.isAgg52 Tryz.sizeOf52 rfl (hx) (fun _ => rfl)) rfl rfl rfl ?_
          refine oj_alloc Tryz.zeroValue52 rfl rfl (fun b10 => ?_)
          refine oj_store rfl rfl rfl rfl Tryz.sizeOf52 rfl ?_
          refine oj_nil ?_
          refine ej_th (cj_seq (cj_seq ?_))
          refine cj_regionG (gj_step (y_fa0 fa52_0 rfl) rfl rfl rfl (gj_step (y_load1 Tryz.isAgg50 rfl rfl) rfl rfl rfl (gj_step (y_lenA Tryz.underlying50 rfl) rfl rfl rfl (gj_step (y_move rfl) rfl rfl rfl (gj_step (y_lenA Tryz.underlying39 rfl) rfl rfl rfl (gj_step (y_neq rfl rfl) rfl rfl rfl (gj_nil ?_)))))))
          refine ej_th ?_
          refine cj_cond rfl (fun h39 => ?_) (fun h39 => ?_)
          · have h39b := h39
            try simp only [sxb] at h39
            have hbad : fake1 ms.length f = false := by unfold fake1; rw [show ((f.has.length : Int) == (ms.length : Int)) = false by simpa [bne] using h39b]; rfl
            refine cj_seq ?_
            refine cj_regionG (gj_step (y_assign rfl) rfl rfl rfl (gj_nil ?_))
            refine ej_th (cj_ret (ej_then_ret (ej_blk_ret (ej_then_ret (ej_then_ret (ej_blk_ret (ej_then_ret ?_)))))))
            refine ej_ret1 rfl Tryz.results36 rfl (fun w' hp => ⟨?_, hp.below⟩)
            rw [skillE, hmo, hto, if_pos rfl, if_pos rfl, show fakesOk ms.length fs = false by rw [fakesOk, ← hsk, hbad]; simp]; rfl
          · have h39b := h39
            try simp only [sxb] at h39
            have hfl : ((f.has.length : Int) == (ms.length : Int)) = true := by simpa [bne] using h39b
            refine cj_skip (ej_th (cj_seq ?_))
            refine cj_regionG (gj_step (y_fa0 fa52_0 rfl) rfl rfl rfl (gj_step (y_load1 Tryz.isAgg50 rfl rfl) rfl rfl rfl (gj_step (y_lenA Tryz.underlying50 rfl) rfl rfl rfl (gj_step (y_move rfl) rfl rfl rfl (gj_nil ?_)))))
            refine ej_th (cj_block ?_)
            refine cj_lpic (X := Nat) [(30, _), (0, _), (28, _), (29, _), (41, _), (42, _)] (fun j => j ≤ f.has.length ∧ (f.has.drop j).all goodSp = f.has.all goodSp) (fun j => [(43, .int .i64 j)]) (fun j => f.has.length - j) 0 (⟨Nat.zero_le _, rfl⟩) ⟨rfl, rfl, rfl, rfl, rfl, rfl, rfl, trivial⟩ ?_
            rintro j ⟨hj, hsj⟩
            dsimp only [List.cons_append, List.nil_append]
            refine cj_seq ?_
            refine cj_regionG (gj_step (y_lss rfl rfl) rfl rfl rfl (gj_nil ?_))
            refine ej_th (cj_seq ?_)
            refine cj_cond rfl (fun h44 => ?_) (fun h44 => ?_)
            · have h44b := h44
              try simp only [sxb] at h44
              obtain ⟨s, hy⟩ : ∃ s, f.has[j]? = some s := ⟨_, List.getElem?_eq_getElem (by omega)⟩
              rw [all_drop goodSp f.has j s hy] at hsj
              refine cj_skip (ej_th (cj_seq (cj_block (cj_seq (cj_region ?_)))))
              refine oj_step (y_ixR (reads_sl) Tryz.underlying50 Tryz.sizeOf105 rfl rfl (⟨by omega, by omega⟩)) rfl rfl rfl ?_
              refine oj_step (y_ldW (reads_sl) Tryz.isAgg105 Tryz.sizeOf105 rfl (hy) (fun _ => rfl)) rfl rfl rfl ?_
              refine oj_alloc Tryz.zeroValue105 rfl rfl (fun b12 => ?_)
              refine oj_store rfl rfl rfl rfl Tryz.sizeOf105 rfl ?_
              refine oj_nil ?_
              refine ej_th (cj_seq ?_)
              refine cj_regionG (gj_step (y_fa0 fa105_0 rfl) rfl rfl rfl (gj_step (y_load1 Tryz.isAgg3 rfl rfl) rfl rfl rfl (gj_step (y_lss rfl rfl) rfl rfl rfl (gj_step (y_move rfl) rfl rfl rfl (gj_g 5 50 55 rfl rfl rfl rfl (fun hg50 => gj_yes rfl rfl rfl (y_fa0 fa105_0 rfl) rfl rfl (gj_yes rfl rfl rfl (y_load1 Tryz.isAgg3 rfl rfl) rfl rfl (gj_yes rfl rfl rfl (y_fa fa105_1 rfl) rfl rfl (gj_yes rfl rfl rfl (y_load1 Tryz.isAgg3 rfl rfl) rfl rfl (gj_yes rfl rfl rfl (y_gtr rfl rfl) rfl rfl (gj_nil rfl)))))) (gj_step (y_or rfl rfl rfl) rfl rfl rfl (gj_step (y_move rfl) rfl rfl rfl (gj_g 3 57 60 rfl rfl rfl rfl (fun hg57 => gj_yes rfl rfl rfl (y_fa fa105_1 rfl) rfl rfl (gj_yes rfl rfl rfl (y_load1 Tryz.isAgg3 rfl rfl) rfl rfl (gj_yes rfl rfl rfl (y_gtr rfl rfl) rfl rfl (gj_nil rfl)))) (gj_step (y_or rfl rfl rfl) rfl rfl rfl (gj_nil ?_))))))))))
              refine ej_th ?_
              refine cj_cond rfl (fun h61 => ?_) (fun h61 => ?_)
              · have h61b := h61
                try simp only [sxb] at h61
                refine cj_seq ?_
                refine cj_regionG (gj_step (y_assign rfl) rfl rfl rfl (gj_nil ?_))
                refine ej_th (cj_ret (ej_blk_ret (ej_then_ret (ej_then_ret (ej_blk_ret (ej_blk_ret (ej_then_ret (ej_then_ret (ej_blk_ret (ej_then_ret ?_))))))))))
                refine ej_ret1 rfl Tryz.results36 rfl (fun w' hp => ⟨?_, hp.below⟩)
                rw [skillE, hmo, hto, if_pos rfl, if_pos rfl, show fakesOk ms.length fs = false by rw [fakesOk, ← hsk, fake1, ← hsj, show goodSp s = false by unfold goodSp badSp; rw [h61b]; rfl]; simp]; rfl
              · have h61b := h61
                try simp only [sxb] at h61
                refine cj_skip (ej_blk (ej_th ?_))
                refine cj_regionG (gj_step (y_add rfl rfl (by omega)) rfl rfl rfl (gj_step (y_move rfl) rfl rfl rfl (gj_nil ?_)))
                exact ej_nx (j + 1) (by omega) ⟨by omega, by rw [← hsj, show goodSp s = true by unfold goodSp badSp; rw [h61b]; rfl, Bool.true_and]⟩ ⟨rfl, rfl, rfl, rfl, rfl, rfl, rfl, trivial⟩
            · have h44b := h44
              try simp only [sxb] at h44
              have hfo : fake1 ms.length f = true := by unfold fake1; rw [hfl, ← hsj, List.drop_of_length_le (by omega)]; rfl
              refine cj_exit (ej_then_exit (ej_then_exit (ej_blk_hit (ej_blk (ej_th ?_)))))
              refine cj_regionG (gj_step (y_add rfl rfl (by omega)) rfl rfl rfl (gj_step (y_move rfl) rfl rfl rfl (gj_nil ?_)))
              exact ej_nx (k + 1) (by omega) ⟨by omega, by rw [← hsk, hfo, Bool.true_and]⟩ ⟨rfl, rfl, rfl, rfl, trivial⟩
        · have h31b := h31
          try simp only [sxb] at h31
          refine cj_exit (ej_then_exit (ej_then_exit (ej_blk_hit (ej_th (cj_seq ?_)))))
          refine cj_regionG (gj_step (y_assign rfl) rfl rfl rfl (gj_nil ?_))
          refine ej_th (cj_ret ?_)
          refine ej_ret1 rfl Tryz.results36 rfl (fun w' hp => ⟨?_, hp.below⟩)
          rw [skillE, hmo, hto, if_pos rfl, if_pos rfl, show fakesOk ms.length fs = true by rw [fakesOk, decide_eq_true (by omega), ← hsk, List.drop_of_length_le (by omega)]; rfl]; rfl

theorem k_finds (m : Meas) (r : Int) (s : Span) (w : World) (hb : (-1 ≤ r ∧ r ≤ 100000) ∧ (0 ≤ m.tol ∧ m.tol ≤ 1000)) : Calls Tryz.prog 96 #[evMe m, .int .i64 r, evSp s] w (fun e w' => e = .returned (.bool (fnd m r s)) ∧ Grow w w') := by
  refine enter_pure (args := [evMe m, .int .i64 r, evSp s]) [] Tryz.func96 rfl (by rw [Tryz.ntmps96]; simp) (by simp) ?_
  refine cj_seq (cj_region ?_)
  refine oj_box rfl rfl rfl (fun b3 => ?_)
  refine oj_box rfl rfl rfl (fun b5 => ?_)
  refine oj_step (y_assign rfl) rfl rfl rfl ?_
  refine oj_nil ?_
  refine ej_th (cj_seq ?_)
  refine cj_regionG (gj_step (y_move rfl) rfl rfl rfl (gj_step (y_geq rfl rfl) rfl rfl rfl (gj_step (y_move rfl) rfl rfl rfl (gj_g 18 9 27 rfl rfl rfl rfl (fun hg9 => gj_yes rfl rfl rfl (y_fa0 fa105_0 rfl) rfl rfl (gj_yes rfl rfl rfl (y_load1 Tryz.isAgg3 rfl rfl) rfl rfl (gj_yes rfl rfl rfl (y_move rfl) rfl rfl (gj_yes rfl rfl rfl (y_fa0 fa91_0 rfl) rfl rfl (gj_yes rfl rfl rfl (y_load1 Tryz.isAgg3 rfl rfl) rfl rfl (gj_yes rfl rfl rfl (y_mul rfl rfl (by omega)) rfl rfl (gj_yes rfl rfl rfl (y_add rfl rfl (by omega)) rfl rfl (gj_yes rfl rfl rfl (y_gtr rfl rfl) rfl rfl (gj_yes rfl rfl rfl (y_move rfl) rfl rfl (gj_g 8 18 26 rfl rfl rfl rfl (fun hg18 => gj_yes rfl rfl rfl (y_fa fa105_1 rfl) rfl rfl (gj_yes rfl rfl rfl (y_load1 Tryz.isAgg3 rfl rfl) rfl rfl (gj_yes rfl rfl rfl (y_move rfl) rfl rfl (gj_yes rfl rfl rfl (y_fa0 fa91_0 rfl) rfl rfl (gj_yes rfl rfl rfl (y_load1 Tryz.isAgg3 rfl rfl) rfl rfl (gj_yes rfl rfl rfl (y_mul rfl rfl (by omega)) rfl rfl (gj_yes rfl rfl rfl (y_sub rfl rfl (by omega)) rfl rfl (gj_yes rfl rfl rfl (y_lss rfl rfl) rfl rfl (gj_nil rfl))))))))) (gj_yes rfl rfl rfl (y_or rfl rfl rfl) rfl rfl (gj_nil rfl)))))))))))) (gj_step (y_and rfl rfl rfl) rfl rfl rfl (gj_step (y_assign rfl) rfl rfl rfl (gj_nil ?_)))))))
  refine ej_th (cj_ret ?_)
  exact ej_ret1 rfl Tryz.results96 rfl (fun w' hp => ⟨rfl, hp.below⟩)

end Go.Proofs.YtppfniekcgnmjaaGreat.Pl
namespace Go.Proofs.YtppfniekcgnmjaaGreat.Pl
open Go.Sx Go.RowKit
set_option maxRecDepth 20000
theorem el23 : ElemIs Tryz.prog 23 3 1 8 := ⟨⟨_, (.int .i64 0), Tryz.underlying23, Tryz.type3, by kernel_rfl, by kernel_rfl, by kernel_rfl, by kernel_rfl, by decide⟩⟩
end Go.Proofs.YtppfniekcgnmjaaGreat.Pl
namespace Go.Proofs.YtppfniekcgnmjaaGreat.Pl
open Go.Sx Go.RowKit
set_option maxRecDepth 20000
theorem k_found (ms : List Meas) (A : Option Addr) (c : Nat) (tk : List Int) (At : Option Addr) (ct : Nat) (f : FakeV) (w : World) (hm : Rd w 2 encMe A ms) (ht : Rd w 1 enInt At tk) (hr : Rd w 2 encSp f.A f.has) (hml : ms.length ≤ 8) (hmb : ∀ m ∈ ms, (0 ≤ m.tol ∧ m.tol ≤ 1000) ∧ (1 ≤ m.lab ∧ m.lab ≤ 1000)) (htl : tk.length = ms.length ∧ ∀ x ∈ tk, -1 ≤ x ∧ x ≤ 100000) (hhl : f.has.length = ms.length) : Calls Tryz.prog 67 #[.slice A ms.length c, .slice At tk.length ct, evFk f] w (fun e w' => ∃ A c, e = .returned (.slice A (foundL ms tk f).length c) ∧ Grow w w' ∧ Res w w' 1 enInt A (foundL ms tk f)) := by
  refine enter_pure (args := [.slice A ms.length c, .slice At tk.length ct, evFk f]) [sl (fun b => b < w.heap.size) 2 encMe A ms, sl (fun b => b < w.heap.size) 1 enInt At tk, sl (fun b => b < w.heap.size) 2 encSp f.A f.has] Tryz.func67 rfl (by rw [Tryz.ntmps67]; simp) (fun g hg => by simp at hg; rcases hg with rfl | rfl | rfl; exact ⟨hm, fun _ h => h⟩; exact ⟨ht, fun _ h => h⟩; exact ⟨hr, fun _ h => h⟩) ?_
  refine cj_seq (cj_region ?_)
  refine oj_box rfl rfl rfl (fun b5 => ?_)
  refine oj_step (y_assign rfl) rfl rfl rfl ?_
  refine oj_nil ?_
  refine ej_th (cj_seq ?_)
  refine cj_regionG (gj_step (y_assign rfl) rfl rfl rfl (gj_nil ?_))
  refine ej_th (cj_seq (cj_seq ?_))
  refine cj_regionG (gj_step (y_move rfl) rfl rfl rfl (gj_step (y_lenA Tryz.underlying39 rfl) rfl rfl rfl (gj_step (y_move rfl) rfl rfl rfl (gj_nil ?_))))
  refine ej_th (cj_block ?_)
  refine cj_ownNil 3 1 enInt ?_
  refine cj_eqO [ow 3 1 enInt none 0 ([] : List Int), ownB b5 (cellsB 52 [.slice f.A f.has.length f.c])] rfl ?_
  refine cj_lpi (X := Nat × Option Addr × Nat × List Int) [(1, _), (5, _), (6, _), (10, _), (11, _)] (fun ⟨k, A1, c1, xs⟩ => k ≤ ms.length ∧ xs.length ≤ k ∧ xs ++ fndF (ms.drop k) (tk.drop k) (f.has.drop k) k = (foundL ms tk f)) (fun ⟨k, A1, c1, xs⟩ => [(7, .slice A1 xs.length c1), (12, .int .i64 k)]) (fun ⟨k, A1, c1, xs⟩ => [ow 3 1 enInt A1 c1 xs, ownB b5 (cellsB 52 [.slice f.A f.has.length f.c])]) (fun ⟨k, A1, c1, xs⟩ => [sl (fun b => b < w.heap.size) 2 encMe A ms, sl (fun b => b < w.heap.size) 1 enInt At tk, sl (fun b => b < w.heap.size) 2 encSp f.A f.has]) (fun ⟨k, A1, c1, xs⟩ => ms.length - k) (0, none, 0, []) (⟨Nat.zero_le _, Nat.zero_le _, rfl⟩) ⟨rfl, rfl, rfl, rfl, rfl, rfl, rfl, trivial⟩ ?_
  rintro ⟨k, A1, c1, xs⟩ ⟨hk, hxl, hxs⟩
  dsimp only [List.cons_append, List.nil_append]
  refine cj_seq ?_
  refine cj_regionG (gj_step (y_lss rfl rfl) rfl rfl rfl (gj_nil ?_))
  refine ej_th (cj_seq ?_)
  refine cj_cond rfl (fun h13 => ?_) (fun h13 => ?_)
  · have h13b := h13
    try simp only [sxb] at h13
    obtain ⟨m, hx⟩ : ∃ m, ms[k]? = some m := ⟨_, List.getElem?_eq_getElem (by omega)⟩
    obtain ⟨r, hy⟩ : ∃ r, tk[k]? = some r := ⟨_, List.getElem?_eq_getElem (by omega)⟩
    obtain ⟨s, hz⟩ : ∃ s, f.has[k]? = some s := ⟨_, List.getElem?_eq_getElem (by omega)⟩
    rw [fndF_drop ms tk f.has k m r s hx hy hz] at hxs
    refine cj_skip (ej_th (cj_seq (cj_block (cj_seq (cj_region ?_)))))
    refine oj_step (y_move rfl) rfl rfl rfl ?_
    refine oj_step (y_ixR (reads_sl) Tryz.underlying39 Tryz.sizeOf91 rfl rfl (⟨by omega, by omega⟩)) rfl rfl rfl ?_
    refine oj_step (y_ldW (reads_sl) Tryz.isAgg91 Tryz.sizeOf91 rfl (hx) (fun _ => rfl)) rfl rfl rfl ?_
    refine oj_alloc Tryz.zeroValue91 rfl rfl (fun b9 => ?_)
    refine oj_step (y_assign rfl) rfl rfl rfl ?_
    refine oj_store rfl rfl rfl rfl Tryz.sizeOf91 rfl ?_
    refine oj_nil ?_
    refine ej_th (cj_seq ?_)
    refine cj_draw (by kernel_rfl) (by kernel_rfl) ?_
    refine gj_step (y_loadN Tryz.isAgg91 Tryz.sizeOf91 rfl) rfl rfl rfl (gj_step (y_move rfl) rfl rfl rfl (gj_step (y_move rfl) rfl rfl rfl (gj_step (y_ixR (reads_sl) Tryz.underlying23 Tryz.sizeOf3 rfl rfl (⟨by omega, by omega⟩)) rfl rfl rfl (gj_step (y_ld0 (reads_sl) Tryz.isAgg3 rfl (hy) rfl) rfl rfl rfl (gj_step (y_fa0 fa52_0 rfl) rfl rfl rfl (gj_step (y_load1 Tryz.isAgg50 rfl rfl) rfl rfl rfl (gj_step (y_move rfl) rfl rfl rfl (gj_step (y_ixR (reads_sl) Tryz.underlying50 Tryz.sizeOf105 rfl rfl (⟨by omega, by omega⟩)) rfl rfl rfl (gj_step (y_ldW (reads_sl) Tryz.isAgg105 Tryz.sizeOf105 rfl (hz) (fun _ => rfl)) rfl rfl rfl (?_))))))))))
    refine gj_step (y_call Tryz.call96 rfl (fun w hp => k_finds m r s w ⟨htl.2 r (List.mem_of_getElem? hy), (hmb m (List.mem_of_getElem? hx)).1⟩)) rfl rfl rfl ?_
    refine gj_nil ?_
    refine ej_th ?_
    refine cj_cond rfl (fun h27 => ?_) (fun h27 => ?_)
    · have h27b := h27
      try simp only [sxb] at h27
      rw [if_pos h27b] at hxs
      refine cj_region ?_
      refine oj_step (y_move rfl) rfl rfl rfl ?_
      refine oj_step (y_move rfl) rfl rfl rfl ?_
      refine oj_buildSlice [.int .i64 0] Tryz.underlying23 Tryz.sizeOf3 Tryz.zeroValue3 rfl rfl (by kernel_rfl) rfl rfl (fun b30 => ?_)
      refine oj_append  el23 (fun _ => rfl) enInt_one rfl rfl rfl (reads_lit [(k : Int)] (fun _ => rfl) rfl) (by simp [maxLen]; omega) (by simp; omega) rfl (fun A31 c31 => ?_)
      refine oj_step (y_assign rfl) rfl rfl rfl ?_
      refine oj_nil ?_
      refine ej_blk (ej_th ?_)
      refine cj_regionG (gj_step (y_add rfl rfl (by omega)) rfl rfl rfl (gj_step (y_move rfl) rfl rfl rfl (gj_nil ?_)))
      exact ej_nx (k + 1, A31, c31, xs ++ [(k : Int)]) (by simp only; omega) ⟨by first | omega | (simp only; omega), by simp only [List.length_append, List.length_cons, List.length_nil]; omega, by rw [List.append_assoc]; exact hxs⟩ ⟨rfl, rfl, rfl, rfl, rfl, rfl, rfl, trivial⟩
    · have h27b := h27
      try simp only [sxb] at h27
      rw [if_neg (by simp [h27b])] at hxs
      refine cj_skip (ej_blk (ej_th ?_))
      refine cj_regionG (gj_step (y_add rfl rfl (by omega)) rfl rfl rfl (gj_step (y_move rfl) rfl rfl rfl (gj_nil ?_)))
      exact ej_nx (k + 1, A1, c1, xs) (by simp only; omega) ⟨by first | omega | (simp only; omega), by simp only; omega, hxs⟩ ⟨rfl, rfl, rfl, rfl, rfl, rfl, rfl, trivial⟩
  · have h13b := h13
    try simp only [sxb] at h13
    have hxe : xs = (foundL ms tk f) := by rw [← hxs, List.drop_of_length_le (show ms.length ≤ k by omega), fndF_nil, List.append_nil]
    refine cj_exit (ej_then_exit (ej_then_exit (ej_blk_hit (ej_th (cj_seq ?_)))))
    refine cj_regionG (gj_step (y_move rfl) rfl rfl rfl (gj_step (y_assign rfl) rfl rfl rfl (gj_nil ?_)))
    refine ej_th (cj_ret ?_)
    exact ej_ret1 rfl Tryz.results67 rfl (fun w' hp => ⟨A1, c1, by rw [← hxe], hp.below, by rw [← hxe]; exact hp.res (fun _ => rfl) (by unfold maxLen; omega)⟩)

end Go.Proofs.YtppfniekcgnmjaaGreat.Pl
namespace Go.Proofs.YtppfniekcgnmjaaGreat.Pl
open Go.Sx Go.RowKit
set_option maxRecDepth 20000

end Go.Proofs.YtppfniekcgnmjaaGreat.Pl
namespace Go.Proofs.YtppfniekcgnmjaaGreat.Pl
open Go.Sx Go.RowKit
set_option maxRecDepth 20000
theorem k_shows (ms : List Meas) (A : Option Addr) (c : Nat) (tk : List Int) (At : Option Addr) (ct : Nat) (fs : List FakeV) (Af : Option Addr) (cf : Nat) (set : List Int) (As : Option Addr) (cs : Nat) (w : World) (hm : Rd w 2 encMe A ms) (ht : Rd w 1 enInt At tk) (hf : Rd w 1 encFk Af fs) (hgf : ∀ f ∈ fs, GoodK w f) (hs : Rd w 1 enInt As set) (hml : ms.length ≤ 8) (hmb : ∀ m ∈ ms, (0 ≤ m.tol ∧ m.tol ≤ 1000) ∧ (1 ≤ m.lab ∧ m.lab ≤ 1000)) (htl : tk.length = ms.length ∧ ∀ x ∈ tk, -1 ≤ x ∧ x ≤ 100000) (hfb : ∀ f ∈ fs, f.has.length = ms.length) : Calls Tryz.prog 39 #[.slice A ms.length c, .slice At tk.length ct, .slice Af fs.length cf, .slice As set.length cs] w (fun e w' => e = .returned (.bool (shwB ms tk fs set)) ∧ Grow w w') := by
  have hlf := hf.len
  have hls := hs.len
  refine enter_pure (args := [.slice A ms.length c, .slice At tk.length ct, .slice Af fs.length cf, .slice As set.length cs]) [sl (fun b => b < w.heap.size) 2 encMe A ms, sl (fun b => b < w.heap.size) 1 enInt At tk, sl (fun b => b < w.heap.size) 1 encFk Af fs, sl (fun b => b < w.heap.size) 1 enInt As set] Tryz.func39 rfl (by rw [Tryz.ntmps39]; simp) (fun g hg => by simp at hg; rcases hg with rfl | rfl | rfl | rfl; exact ⟨hm, fun _ h => h⟩; exact ⟨ht, fun _ h => h⟩; exact ⟨hf, fun _ h => h⟩; exact ⟨hs, fun _ h => h⟩) ?_
  refine cj_seq ?_
  refine cj_regionG (gj_step (y_assign rfl) rfl rfl rfl (gj_nil ?_))
  refine ej_th ?_
  refine cj_scope rfl ?_
  refine cj_seq (cj_label (ej_th (cj_seq (cj_seq ?_))))
  refine cj_regionG (gj_step (y_move rfl) rfl rfl rfl (gj_step (y_lenA Tryz.underlying40 rfl) rfl rfl rfl (gj_step (y_move rfl) rfl rfl rfl (gj_nil ?_))))
  refine ej_th (cj_block ?_)
  refine cj_lpic (X := Nat) [(0, _), (1, _), (3, _), (13, _), (14, _)] (fun k => k ≤ fs.length ∧ (fs.drop k).all (shwF ms tk set) = shwB ms tk fs set) (fun k => [(15, .int .i64 k)]) (fun k => fs.length - k) 0 (⟨Nat.zero_le _, rfl⟩) ⟨rfl, rfl, rfl, rfl, rfl, rfl, trivial⟩ ?_
  rintro k ⟨hk, hsk⟩
  dsimp only [List.cons_append, List.nil_append]
  refine cj_seq ?_
  refine cj_regionG (gj_step (y_lss rfl rfl) rfl rfl rfl (gj_nil ?_))
  refine ej_th (cj_seq ?_)
  refine cj_cond rfl (fun h16 => ?_) (fun h16 => ?_)
  · have h16b := h16
    try simp only [sxb] at h16
    obtain ⟨f, hx⟩ : ∃ f, fs[k]? = some f := ⟨_, List.getElem?_eq_getElem (by omega)⟩
    rw [all_drop (shwF ms tk set) fs k f hx] at hsk
    have hgr := hgf f (List.mem_of_getElem? hx)
    have hl2 := hgr.len
    have hfn : (foundL ms tk f).length ≤ ms.length := fndF_len ms tk f.has 0
    refine cj_rd hgr (fun _ h => h) ?_
    refine cj_skip (ej_th (cj_seq (cj_block (cj_seq (cj_region ?_)))))
    refine oj_step (y_ixR (reads_sl) Tryz.underlying40 Tryz.sizeOf52 rfl rfl (⟨by omega, by omega⟩)) rfl rfl rfl ?_
    refine oj_step (y_ldW (reads_sl) Tryz.isAgg52 Tryz.sizeOf52 rfl (hx) (fun _ => rfl)) rfl rfl rfl ?_
    refine oj_alloc Tryz.zeroValue52 rfl rfl (fun b10 => ?_)
    refine oj_store rfl rfl rfl rfl Tryz.sizeOf52 rfl ?_
    refine oj_nil ?_
    refine ej_th (cj_seq (cj_seq (cj_region ?_)))
    refine oj_step (y_move rfl) rfl rfl rfl ?_
    refine oj_step (y_move rfl) rfl rfl rfl ?_
    refine oj_step (y_loadN Tryz.isAgg52 Tryz.sizeOf52 rfl) rfl rfl rfl ?_
    refine oj_callS (fun A c => .slice A (foundL ms tk f).length c) 1 enInt (foundL ms tk f) Tryz.call67 rfl (fun w hp => k_found ms A c tk At ct f w hp.rd hp.rd hp.rd hml hmb htl (hfb f (List.mem_of_getElem? hx))) rfl (fun A22 c22 fp22 hfp22 => ?_)
    refine oj_step (y_lenA Tryz.underlying23 rfl) rfl rfl rfl ?_
    refine oj_step (y_move rfl) rfl rfl rfl ?_
    refine oj_nil ?_
    refine ej_th (cj_block ?_)
    refine cj_lpic (X := Nat) [(15, _), (0, _), (1, _), (3, _), (13, _), (14, _), (22, _), (23, _)] (fun j => j ≤ (foundL ms tk f).length ∧ ((foundL ms tk f).drop j).any (hasI set) = shwF ms tk set f) (fun j => [(24, .int .i64 j)]) (fun j => (foundL ms tk f).length - j) 0 (⟨Nat.zero_le _, rfl⟩) ⟨rfl, rfl, rfl, rfl, rfl, rfl, rfl, rfl, rfl, trivial⟩ ?_
    rintro j ⟨hj, hsj⟩
    dsimp only [List.cons_append, List.nil_append]
    refine cj_seq ?_
    refine cj_regionG (gj_step (y_lss rfl rfl) rfl rfl rfl (gj_nil ?_))
    refine ej_th (cj_seq ?_)
    refine cj_cond rfl (fun h25 => ?_) (fun h25 => ?_)
    · have h25b := h25
      try simp only [sxb] at h25
      obtain ⟨i, hy⟩ : ∃ i, (foundL ms tk f)[j]? = some i := ⟨_, List.getElem?_eq_getElem (by omega)⟩
      rw [any_drop (hasI set) (foundL ms tk f) j i hy] at hsj
      refine cj_skip (ej_th (cj_seq (cj_block (cj_seq ?_))))
      refine cj_regionG (gj_step (y_ixR (reads_sl) Tryz.underlying23 Tryz.sizeOf3 rfl rfl (⟨by omega, by omega⟩)) rfl rfl rfl (gj_step (y_ld0 (reads_sl) Tryz.isAgg3 rfl (hy) rfl) rfl rfl rfl (gj_step (y_assign rfl) rfl rfl rfl (gj_nil ?_))))
      refine ej_th (cj_seq ?_)
      refine cj_regionG ?_
      refine gj_step (y_move rfl) rfl rfl rfl (gj_step (y_move rfl) rfl rfl rfl (?_))
      refine gj_step (y_call Tryz.call68 rfl (fun w hp => k_ContainsI _ _ _ _ w hp.rd)) rfl rfl rfl ?_
      refine gj_nil ?_
      refine ej_th ?_
      refine cj_cond rfl (fun h30 => ?_) (fun h30 => ?_)
      · have h30b := h30
        try simp only [sxb] at h30
        have hsf : shwF ms tk set f = true := by rw [← hsj, h30b]; rfl
        refine cj_exit (ej_blk_pass rfl (ej_then_exit (ej_then_exit (ej_blk_pass rfl (ej_then_exit (ej_blk_hit (ej_th ?_)))))))
        refine cj_regionG (gj_step (y_add rfl rfl (by omega)) rfl rfl rfl (gj_step (y_move rfl) rfl rfl rfl (gj_nil ?_)))
        exact ej_nx (k + 1) (by omega) ⟨by omega, by rw [← hsk, hsf, Bool.true_and]⟩ ⟨rfl, rfl, rfl, rfl, rfl, rfl, trivial⟩
      · have h30b := h30
        try simp only [sxb] at h30
        refine cj_skip (ej_blk (ej_th ?_))
        refine cj_regionG (gj_step (y_add rfl rfl (by omega)) rfl rfl rfl (gj_step (y_move rfl) rfl rfl rfl (gj_nil ?_)))
        exact ej_nx (j + 1) (by omega) ⟨by omega, by rw [← hsj, h30b, Bool.false_or]⟩ ⟨rfl, rfl, rfl, rfl, rfl, rfl, rfl, rfl, rfl, trivial⟩
    · have h25b := h25
      try simp only [sxb] at h25
      have hsf : shwF ms tk set f = false := by rw [← hsj, List.drop_of_length_le (show (foundL ms tk f).length ≤ j by omega)]; rfl
      refine cj_exit (ej_then_exit (ej_then_exit (ej_blk_hit (ej_th (cj_seq ?_)))))
      refine cj_regionG (gj_step (y_assign rfl) rfl rfl rfl (gj_nil ?_))
      refine ej_th (cj_ret (ej_blk_ret (ej_then_ret (ej_then_ret (ej_blk_ret (ej_then_ret (ej_noGoto_ret ?_)))))))
      refine ej_ret1 rfl Tryz.results39 rfl (fun w' hp => ⟨?_, hp.below⟩)
      rw [← hsk, hsf]; rfl
  · have h16b := h16
    try simp only [sxb] at h16
    refine cj_exit (ej_then_exit (ej_then_exit (ej_blk_hit (ej_th (cj_seq ?_)))))
    refine cj_regionG (gj_step (y_assign rfl) rfl rfl rfl (gj_nil ?_))
    refine ej_th (cj_ret (ej_noGoto_ret ?_))
    refine ej_ret1 rfl Tryz.results39 rfl (fun w' hp => ⟨?_, hp.below⟩)
    rw [← hsk, List.drop_of_length_le (by omega)]; rfl

theorem k_Agree (ms : List Meas) (A : Option Addr) (c : Nat) (a b : List Int) (Aa Ab : Option Addr) (ca cb : Nat) (w : World) (hm : Rd w 2 encMe A ms) (ha : Rd w 1 enInt Aa a) (hb : Rd w 1 enInt Ab b) : Calls Tryz.prog 18 #[.slice A ms.length c, .slice Aa a.length ca, .slice Ab b.length cb] w (fun e w' => e = .returned (.tuple #[.bool (AgrB ms a b), .int .i64 (AgrE ms a b)]) ∧ Grow w w') := by
  have hlm := hm.len
  refine enter_pure (args := [.slice A ms.length c, .slice Aa a.length ca, .slice Ab b.length cb]) [sl (fun b => b < w.heap.size) 2 encMe A ms, sl (fun b => b < w.heap.size) 1 enInt Aa a, sl (fun b => b < w.heap.size) 1 enInt Ab b] Tryz.func18 rfl (by rw [Tryz.ntmps18]; simp) (fun g hg => by simp at hg; rcases hg with rfl | rfl | rfl; exact ⟨hm, fun _ h => h⟩; exact ⟨ha, fun _ h => h⟩; exact ⟨hb, fun _ h => h⟩) ?_
  refine cj_seq ?_
  refine cj_regionG (gj_step (y_assign rfl) rfl rfl rfl (gj_step (y_assign rfl) rfl rfl rfl (gj_nil ?_)))
  refine ej_th (cj_seq (cj_seq ?_))
  refine cj_regionG ?_
  refine gj_step (y_move rfl) rfl rfl rfl (?_)
  refine gj_step (y_call Tryz.call45 rfl (fun w hp => k_CheckM _ _ _ w hp.rd)) rfl rfl rfl ?_
  refine gj_step (y_assign rfl) rfl rfl rfl (?_)
  refine gj_nil ?_
  refine ej_th (cj_seq ?_)
  refine cj_regionG (gj_step (y_move rfl) rfl rfl rfl (gj_step (y_neq rfl rfl) rfl rfl rfl (gj_nil ?_)))
  refine ej_th ?_
  refine cj_cond rfl (fun h15 => ?_) (fun h15 => ?_)
  · have h15b := h15
    try simp only [sxb] at h15
    have hno := meas_no h15b
    refine cj_seq ?_
    refine cj_regionG (gj_step (y_move rfl) rfl rfl rfl (gj_step (y_assign rfl) rfl rfl rfl (gj_step (y_assign rfl) rfl rfl rfl (gj_nil ?_))))
    refine ej_th (cj_ret (ej_then_ret ?_))
    obtain ⟨e1, e2⟩ := agr_no1 (a := a) (b := b) hno
    exact ej_ret2 rfl Tryz.results18 rfl rfl (fun w' hp => ⟨by rw [e2, e1, measE, hno]; rfl, hp.below⟩)
  · have h15b := h15
    try simp only [sxb] at h15
    have hmo := meas_0 h15b
    obtain ⟨hml, hmb⟩ := meas_bd hmo
    refine cj_skip (ej_th (cj_seq (cj_seq (cj_region ?_))))
    refine oj_step (y_move rfl) rfl rfl rfl ?_
    refine oj_step (y_move rfl) rfl rfl rfl ?_
    refine oj_step (y_move rfl) rfl rfl rfl ?_
    refine oj_buildSlice (cs := [.slice Aa a.length ca, .slice Ab b.length cb]) [.slice none 0 0, .slice none 0 0] Tryz.underlying128 Tryz.sizeOf23 Tryz.zeroValue23 rfl rfl (by kernel_rfl) (by kernel_rfl) rfl (fun b20 => ?_)
    refine oj_step (y_call Tryz.call46 rfl (fun w hp => k_readings ms A c [⟨Aa, ca, a⟩, ⟨Ab, cb, b⟩] (some ⟨b20, 0, none⟩) 2 w (hp.rdLit (sz := 1) (enc := encLs) [⟨Aa, ca, a⟩, ⟨Ab, cb, b⟩] (fun _ => rfl) rfl (by unfold maxLen; simp)) (fun r hr => by
      simp only [List.mem_cons, List.mem_nil_iff, or_false] at hr
      rcases hr with rfl | rfl
      · exact ha.mono hp.below
      · exact hb.mono hp.below))) rfl rfl rfl ?_
    refine oj_step (y_assign rfl) rfl rfl rfl ?_
    refine oj_nil ?_
    refine ej_th (cj_seq ?_)
    refine cj_regionG (gj_step (y_move rfl) rfl rfl rfl (gj_step (y_neq rfl rfl) rfl rfl rfl (gj_nil ?_)))
    refine ej_th ?_
    refine cj_cond rfl (fun h23 => ?_) (fun h23 => ?_)
    · have h23b := h23
      try simp only [sxb] at h23
      have hro : (rdOk ms.length a && rdOk ms.length b) = false := by have := rds_no h23b; simpa [rdOkV] using this
      refine cj_seq ?_
      refine cj_regionG (gj_step (y_move rfl) rfl rfl rfl (gj_step (y_assign rfl) rfl rfl rfl (gj_step (y_assign rfl) rfl rfl rfl (gj_nil ?_))))
      refine ej_th (cj_ret (ej_then_ret ?_))
      have hr0 := rds_no h23b
      obtain ⟨e1, e2⟩ := agr_no2 hmo hro
      exact ej_ret2 rfl Tryz.results18 rfl rfl (fun w' hp => ⟨by rw [e2, e1, rdsE, hr0]; rfl, hp.below⟩)
    · have h23b := h23
      try simp only [sxb] at h23
      have hro : (rdOk ms.length a && rdOk ms.length b) = true := by have := rds_0 h23b; simpa [rdOkV] using this
      have hrp := Bool.and_eq_true_iff.1 hro
      have hab := rdOk_bd hrp.1
      have hbb := rdOk_bd hrp.2
      refine cj_skip (ej_th (cj_seq (cj_seq ?_)))
      refine cj_regionG (gj_step (y_move rfl) rfl rfl rfl (gj_step (y_lenA Tryz.underlying39 rfl) rfl rfl rfl (gj_step (y_move rfl) rfl rfl rfl (gj_nil ?_))))
      refine ej_th (cj_block ?_)
      refine cj_lpic (X := Nat) [(1, _), (2, _), (25, _), (26, _)] (fun k => k ≤ ms.length ∧ agrF (ms.drop k) (a.drop k) (b.drop k) = agrF ms a b) (fun k => [(27, .int .i64 k)]) (fun k => ms.length - k) 0 (⟨Nat.zero_le _, rfl⟩) ⟨rfl, rfl, rfl, rfl, rfl, trivial⟩ ?_
      rintro k ⟨hk, hsk⟩
      dsimp only [List.cons_append, List.nil_append]
      refine cj_seq ?_
      refine cj_regionG (gj_step (y_lss rfl rfl) rfl rfl rfl (gj_nil ?_))
      refine ej_th (cj_seq ?_)
      refine cj_cond rfl (fun h28 => ?_) (fun h28 => ?_)
      · have h28b := h28
        try simp only [sxb] at h28
        obtain ⟨m, hx⟩ : ∃ m, ms[k]? = some m := ⟨_, List.getElem?_eq_getElem (by omega)⟩
        obtain ⟨p, hy⟩ : ∃ p, a[k]? = some p := ⟨_, List.getElem?_eq_getElem (by omega)⟩
        obtain ⟨q, hz⟩ : ∃ q, b[k]? = some q := ⟨_, List.getElem?_eq_getElem (by omega)⟩
        rw [agrF_drop ms a b k m p q hx hy hz] at hsk
        have hmt := hmb m (List.mem_of_getElem? hx)
        have hpb := hab.2 p (List.mem_of_getElem? hy)
        have hqb := hbb.2 q (List.mem_of_getElem? hz)
        refine cj_skip (ej_th (cj_seq (cj_block (cj_seq (cj_region ?_)))))
        refine oj_step (y_move rfl) rfl rfl rfl ?_
        refine oj_step (y_ixR (reads_sl) Tryz.underlying39 Tryz.sizeOf91 rfl rfl (⟨by omega, by omega⟩)) rfl rfl rfl ?_
        refine oj_step (y_ldW (reads_sl) Tryz.isAgg91 Tryz.sizeOf91 rfl (hx) (fun _ => rfl)) rfl rfl rfl ?_
        refine oj_alloc Tryz.zeroValue91 rfl rfl (fun b11 => ?_)
        refine oj_step (y_assign rfl) rfl rfl rfl ?_
        refine oj_store rfl rfl rfl rfl Tryz.sizeOf91 rfl ?_
        refine oj_nil ?_
        refine ej_th (cj_seq ?_)
        refine cj_draw (by kernel_rfl) (by kernel_rfl) ?_
        refine gj_step (y_move rfl) rfl rfl rfl (gj_step (y_move rfl) rfl rfl rfl (gj_step (y_ixR (reads_sl) Tryz.underlying23 Tryz.sizeOf3 rfl rfl (⟨by omega, by omega⟩)) rfl rfl rfl (gj_step (y_ld0 (reads_sl) Tryz.isAgg3 rfl (hy) rfl) rfl rfl rfl (gj_step (y_geq rfl rfl) rfl rfl rfl (gj_step (y_move rfl) rfl rfl rfl (?_))))))
        refine gj_g 5 37 42 rfl rfl rfl rfl (fun hg37 => gj_yes rfl rfl rfl (y_move rfl) rfl rfl (gj_yes rfl rfl rfl (y_move rfl) rfl rfl (gj_yes rfl rfl rfl (y_ixR (reads_sl) Tryz.underlying23 Tryz.sizeOf3 rfl rfl (⟨by omega, by omega⟩)) rfl rfl (gj_yes rfl rfl rfl (y_ld0 (reads_sl) Tryz.isAgg3 rfl (hz) rfl) rfl rfl (gj_yes rfl rfl rfl (y_geq rfl rfl) rfl rfl (gj_nil rfl)))))) ?_
        refine gj_step (y_and rfl rfl rfl) rfl rfl rfl (gj_step (y_move rfl) rfl rfl rfl (?_))
        refine gj_g 17 44 61 rfl rfl rfl rfl (fun hg44 => gj_yes rfl rfl rfl (y_move rfl) rfl rfl (gj_yes rfl rfl rfl (y_move rfl) rfl rfl (gj_yes rfl rfl rfl (y_ixR (reads_sl) Tryz.underlying23 Tryz.sizeOf3 rfl rfl (⟨by omega, by omega⟩)) rfl rfl (gj_yes rfl rfl rfl (y_ld0 (reads_sl) Tryz.isAgg3 rfl (hz) rfl) rfl rfl (gj_yes rfl rfl rfl (y_move rfl) rfl rfl (gj_yes rfl rfl rfl (y_move rfl) rfl rfl (gj_yes rfl rfl rfl (y_ixR (reads_sl) Tryz.underlying23 Tryz.sizeOf3 rfl rfl (⟨by omega, by omega⟩)) rfl rfl (gj_yes rfl rfl rfl (y_ld0 (reads_sl) Tryz.isAgg3 rfl (hy) rfl) rfl rfl (gj_yes rfl rfl rfl (y_sub rfl rfl (by omega)) rfl rfl (gj_yes rfl rfl rfl (y_fa0 fa91_0 rfl) rfl rfl (gj_yes rfl rfl rfl (y_load1 Tryz.isAgg3 rfl rfl) rfl rfl (gj_yes rfl rfl rfl (y_mul rfl rfl (by omega)) rfl rfl (gj_yes rfl rfl rfl (y_fa0 fa91_0 rfl) rfl rfl (gj_yes rfl rfl rfl (y_load1 Tryz.isAgg3 rfl rfl) rfl rfl (gj_yes rfl rfl rfl (y_mul rfl rfl (by omega)) rfl rfl (gj_yes rfl rfl rfl (y_call Tryz.call47 rfl (fun w hp => k_within1 _ _ _ w)) rfl rfl (gj_yes rfl rfl rfl (y_not rfl) rfl rfl (gj_nil rfl)))))))))))))))))) ?_
        refine gj_step (y_and rfl rfl rfl) rfl rfl rfl (?_)
        refine gj_nil ?_
        refine ej_th ?_
        refine cj_cond rfl (fun h62 => ?_) (fun h62 => ?_)
        · have h62b := h62
          try simp only [sxb] at h62
          refine cj_seq ?_
          refine cj_regionG (gj_step (y_assign rfl) rfl rfl rfl (gj_step (y_assign rfl) rfl rfl rfl (gj_nil ?_)))
          refine ej_th (cj_ret (ej_blk_ret (ej_then_ret (ej_then_ret (ej_blk_ret (ej_then_ret ?_))))))
          obtain ⟨e1, e2⟩ := agr_yes hmo hro
          rw [← hsk, show disag m p q = true from h62b] at e2
          exact ej_ret2 rfl Tryz.results18 rfl rfl (fun w' hp => ⟨by rw [e2, e1 ]; rfl, hp.below⟩)
        · have h62b := h62
          try simp only [sxb] at h62
          refine cj_skip (ej_blk (ej_th ?_))
          refine cj_regionG (gj_step (y_add rfl rfl (by omega)) rfl rfl rfl (gj_step (y_move rfl) rfl rfl rfl (gj_nil ?_)))
          exact ej_nx (k + 1) (by omega) ⟨by omega, by rw [← hsk, show disag m p q = false from h62b]; rfl⟩ ⟨rfl, rfl, rfl, rfl, rfl, trivial⟩
      · have h28b := h28
        try simp only [sxb] at h28
        refine cj_exit (ej_then_exit (ej_then_exit (ej_blk_hit (ej_th (cj_seq ?_)))))
        refine cj_regionG (gj_step (y_assign rfl) rfl rfl rfl (gj_step (y_assign rfl) rfl rfl rfl (gj_nil ?_)))
        refine ej_th (cj_ret ?_)
        obtain ⟨e1, e2⟩ := agr_yes hmo hro
        rw [← hsk, List.drop_of_length_le (show ms.length ≤ k by omega)] at e2
        exact ej_ret2 rfl Tryz.results18 rfl rfl (fun w' hp => ⟨by rw [e2, e1 ]; rfl, hp.below⟩)

end Go.Proofs.YtppfniekcgnmjaaGreat.Pl
namespace Go.Sx
open Go.RowKit
section
variable {K V : Type} [DecidableEq K]
/-- What is asked of keys that are compared one by one. -/
structure KeyA (P : Program) (kt : TypeId) (kd : TypeDesc) (ek : K → Value) : Prop where
  und : P.underlying kt = some kd
  now : ∀ a b, Instr.sameNow kd (ek a) (ek b) = none
  eq : ∀ a b w, (Op.equal kt (ek a) (ek b)).run P w = .ok (decide (b = a)) w
  bits : ∀ a, Instr.sameBits 10000 (ek a) (ek a) = true
  check : ∀ c w a, (Instr.checkKey c 10000 kt (ek a)).run P w = .ok () w
variable {ek : K → Value} {ev : V → Value} {P : Program} {kt : TypeId} {kd : TypeDesc}
theorem findAsk_eq (hk : KeyA P kt kd ek) (w : World) : ∀ (es : List MapEntry) (l : List (K × V)) (k : K) (n : Nat), entOk ek ev es l → (Instr.findAsking kt (ek k) es n).run P w = .ok ((findL l k n).map fun p => (p.1, ev p.2)) w
  | [], [], _, _, _ => rfl
  | [], _ :: _, _, _, h => by simp [entOk] at h
  | _ :: _, [], _, _, h => by simp [entOk] at h
  | e :: es, p :: l, k, n, h => by
    simp only [entOk, List.map_cons, List.cons.injEq, Prod.mk.injEq] at h
    obtain ⟨⟨h1, h2⟩, h3⟩ := h
    rw [Instr.findAsking, Sem.run_bind, h1, hk.eq, Result.andThen_ok, findL]
    by_cases hp : p.1 = k
    · rw [if_pos hp, if_pos (decide_eq_true hp)]
      simp only [Sem.run_pure, Option.map_some, h2]
    · rw [if_neg hp, if_neg (by simpa using hp)]
      exact findAsk_eq hk w es l k (n + 1) h3
theorem findKey_eq (hk : KeyA P kt kd ek) (w : World) (es : List MapEntry) (l : List (K × V)) (k : K) (h : entOk ek ev es l) : (Instr.findKey kt (ek k) es).run P w = .ok ((findL l k 0).map fun p => (p.1, ev p.2)) w := by
  simp only [Instr.findKey, Sem.run_bind, run_underlying hk.und, Result.andThen_ok]
  cases es with
  | nil => cases l with
    | nil => rfl
    | cons _ _ => simp [entOk] at h
  | cons e es => cases l with
    | nil => simp [entOk] at h
    | cons p l =>
      have h' := h
      simp only [entOk, List.map_cons, List.cons.injEq, Prod.mk.injEq] at h'
      rw [show Instr.findNow kd (ek k) (e :: es) 0 = none by rw [Instr.findNow, h'.1.1, hk.now]]
      exact findAsk_eq hk w _ _ k 0 h
end
section
variable {K V : Type} [DecidableEq K] {ek : K → Value} {ev : V → Value} {kd : TypeDesc} {C : Cx} {Q : Exit → Act → World → Prop} {L : Regs} {O S : List Fact} {ops : Array Oper} {rest : List Oper} {ty : TypeId} {pos : String} {aft : Array Edge} {d : Nat} {dst : Option Tmp} {gu : Option (Nat × Bool)} {t kt et : TypeId} {x y z : Operand}
/-- What a key leads to. -/
theorem y_lookupA {b : Nat} {l : List (K × V)} {kk : K} (d0 : V) (hk : KeyA C.P kt kd ek) [h : HasMp O b ek ev l] (ht : C.P.underlying t = some (.map kt et)) (hz : ∀ w, (zeroValue et).run C.P w = .ok (ev d0) w)
    (hx : val L x = some (.map (some b))) (hy : val L y = some (ek kk)) : Yi C ⟨dst, .lookup t x y true, ty, pos, aft, gu⟩ L O S (.tuple #[ev ((getL l kk).getD d0), .bool (getL l kk).isSome]) :=
  yi_val (by intro c h; cases h) fun a w hr hp => by
    obtain ⟨es, clock, hb, he⟩ := (hp.own _ h.mem).1
    have hf := findKey_eq hk w es.toList l kk he
    have hg := findL_get l kk 0
    simp only [execOp, hr.val hx, hr.val hy, Instr.lookup, Sem.run_bind, run_underlying ht, Result.andThen_ok, run_getObj hb, Sem.run_pure, hk.check, hf]
    cases hfl : findL l kk 0 with
    | none => rw [hfl] at hg; simp only [Option.map_none] at hg; simp [← hg, hz]
    | some p => rw [hfl] at hg; simp only [Option.map_some] at hg; simp [← hg]
theorem oj_mapUpdateA {b : Nat} {l : List (K × V)} {kk : K} {v : V} {O' : List Fact} (hk : KeyA C.P kt kd ek) [hu : UpdMp O b ek ev l (mp ek ev b (putL l kk v)) O'] (ht : C.P.underlying t = some (.map kt et))
    (hx : val L x = some (.map (some b))) (hy : val L y = some (ek kk)) (hz : val L z = some (ev v)) (k : OJ C ops Q rest L O' S) : OJ C ops Q (⟨none, .mapUpdate t x y z, ty, pos, aft, none⟩ :: rest) L O S := by
  intro a w hr hp
  unfold wpListIn
  rw [if_pos (by simp [Region.wanted])]
  refine ⟨fun _ _ => trivial, ?_⟩
  rw [Oper.semAt_eq _ _ _ (by intro c h; cases h)]
  have hown := hp.own _ hu.rep.mem
  obtain ⟨es, clock, hb, he⟩ := hown.1
  have hlt : b < w.heap.size := (hown.2 b rfl).1
  have hf := findKey_eq hk w es.toList l kk he
  have key : ∃ es' clock', (execOp a.eval ⟨none, .mapUpdate t x y z, ty, pos, aft, none⟩).run C.P w = .ok .skip { w with heap := w.heap.setIfInBounds b (.map es' clock') } ∧ entOk ek ev es'.toList (putL l kk v) := by
    cases hfl : findL l kk 0 with
    | none =>
      rw [hfl] at hf
      refine ⟨es.push ⟨ek kk, ev v, clock⟩, clock + 1, ?_, ?_⟩
      · simp only [execOp, hr.val hx, hr.val hy, hr.val hz, Instr.mapUpdate, Sem.run_bind, run_underlying ht, Result.andThen_ok, run_getObj hb, hk.check, hf, Option.map_none, MapKept.run_setObj_map _ hb, Sem.run_pure]
      · unfold entOk at he ⊢
        rw [findL_none l kk 0 hfl, Array.toList_push, List.map_append, he, List.map_append]; rfl
    | some p =>
      obtain ⟨i, u⟩ := p
      rw [hfl] at hf
      obtain ⟨h1, h2⟩ := ent_put (v := v) he hfl
      refine ⟨_, clock, ?_, h2⟩
      simp only [execOp, hr.val hx, hr.val hy, hr.val hz, Instr.mapUpdate, Sem.run_bind, run_underlying ht, Result.andThen_ok, run_getObj hb, hk.check, hf, Option.map_some, Sem.run_pure, h1, Instr.keyThatStays, hk.bits, if_true, MapKept.run_setObj_map _ hb]
  obtain ⟨es', clock', hrun, he'⟩ := key
  rw [hrun]
  show wpListIn _ _ _ _ _ _ _ _
  refine k _ _ hr ?_
  refine hp.write hu.rep rfl rfl rfl (by simp) (fun c _ hc => ?_) ⟨es', clock', ?_, he'⟩ (fun i hi => ?_)
  · have hne : b ≠ c := fun e => hc e.symm
    simp [hne]
  · simp [hlt]
  · have hi' : i = b := hi
    subst hi'
    exact ⟨by simpa using hlt, .inl rfl⟩
end
/-! ### A map of which only something is said -/
section
variable {K V : Type}
/-- A map of one's own, of whose entries something is known. -/
def mpE (ek : K → Value) (ev : V → Value) (b : Nat) (p : List (K × V) → Prop) : Fact where
  fp := fun i => i = b
  P := fun w => ∃ l, p l ∧ (mp ek ev b l).P w
  stab := fun h ⟨l, h1, h2⟩ => ⟨l, h1, (mp ek ev b l).stab h h2⟩
theorem Hp.rep1 {F : Nat → Prop} {w0 w : World} {O S R : List Fact} (h : Hp F w0 O S w) {f : Fact} (f' : Fact) (ht : Take1 O f R) (hP : f'.P w) (hfp : ∀ b, f'.fp b → f.fp b) : Hp F w0 (f' :: R) S w := by
  have h1 := h.permO ht.perm
  refine ⟨h1.os, h1.tape, h1.output, h1.size, h1.fr, fun g hg => ?_, ?_, fun g hg => ⟨(h1.shared g hg).1, (h1.shared g hg).2.1, fun o ho b hb hob => ?_⟩⟩
  · rcases List.mem_cons.1 hg with rfl | hg
    · exact ⟨hP, fun b hb => (h1.own f (List.mem_cons_self ..)).2 b (hfp b hb)⟩
    · exact h1.own g (List.mem_cons_of_mem _ hg)
  · have h2 := List.pairwise_cons.1 h1.apart
    exact List.pairwise_cons.2 ⟨fun g hg b hb hgb => h2.1 g hg b (hfp b hb) hgb, h2.2⟩
  · rcases List.mem_cons.1 ho with rfl | ho
    · exact (h1.shared g hg).2.2 f (List.mem_cons_self ..) b hb (hfp b hob)
    · exact (h1.shared g hg).2.2 o (List.mem_cons_of_mem _ ho) b hb hob
variable {C : Cx} {Q : Exit → Act → World → Prop} {L : Regs} {O S R : List Fact} {ek : K → Value} {ev : V → Value} {b : Nat}
theorem cj_mpO {cd : Code} (p : List (K × V) → Prop) [ht : Take1 O (mpE ek ev b p) R] (k : ∀ l, p l → CJ C cd Q L (mp ek ev b l :: R) S) : CJ C cd Q L O S := fun a w hr hp => by
  obtain ⟨⟨l, h1, h2⟩, _⟩ := hp.ownT ht
  exact k l h1 a w hr (hp.rep1 _ ht h2 (fun _ h => h))
theorem cj_mpC {cd : Code} (p : List (K × V) → Prop) {l : List (K × V)} [ht : Take1 O (mp ek ev b l) R] (h : p l) (k : CJ C cd Q L (mpE ek ev b p :: R) S) : CJ C cd Q L O S := fun a w hr hp =>
  k a w hr (hp.rep1 _ ht ⟨l, h, (hp.ownT ht).1⟩ (fun _ h => h))
end
/-! ### Comparisons whose outcome is known; three cells as results behind a range over a function -/
section
variable {C : Cx} {L : Regs} {O S : List Fact} {dst : Option Tmp} {ty t t' : TypeId} {pos : String} {aft : Array Edge} {gu : Option (Nat × Bool)} {x y : Operand} {k : IntKind} {m n : Int}
theorem y_eqlT (hx : val L x = some (.int k m)) (hy : val L y = some (.int k n)) (h : m = n) : Yi C ⟨dst, .binOp .eql t x y t', ty, pos, aft, gu⟩ L O S (.bool true) := by
  have := y_eql (C := C) (O := O) (S := S) (dst := dst) (ty := ty) (pos := pos) (aft := aft) (gu := gu) (t := t) (t' := t') hx hy
  rwa [show (m == n) = true from beq_iff_eq.2 h] at this
end
theorem cj_pure {C : Cx} {cd : Code} {Q : Exit → Act → World → Prop} {L : Regs} {O S : List Fact} (p : Prop) (h : ∀ w, Hp C.F C.w0 O S w → p) (k : p → CJ C cd Q L O S) : CJ C cd Q L O S := fun a w hr hp => k (h w hp) a w hr hp
theorem oj_eqO {C : Cx} {Q : Exit → Act → World → Prop} {L : Regs} {O S : List Fact} {ops : Array Oper} {rest : List Oper} (O' : List Fact) (h : O = O') (k : OJ C ops Q rest L O' S) : OJ C ops Q rest L O S := by subst h; exact k
/-! ### Maps with stamps whose keys are structs or arrays; loops that keep what the map holds -/
section
variable {K V : Type} (ek : K → Value) (ev : V → Value)
/-- A map under a loop, with all that it holds. -/
def mitK (b r : Nat) (l left : List (K × V)) (cur : Option (K × V)) : Fact where
  fp := fun i => i = b ∨ i = r
  P := fun w => (mit ek ev b r left cur).P w ∧ (mz ek ev b l).P w
  stab := fun h ⟨h1, h2⟩ => ⟨(mit ek ev b r left cur).stab h h1, (mz ek ev b l).stab (fun i hi => h i (.inl hi)) h2⟩
/-- A map one of whose entries is at hand, by its stamp. -/
def mzS [DecidableEq K] (b : Nat) (l : List (K × V)) (kk : K) (n : Nat) : Fact where
  fp := fun i => i = b
  P := fun w => ∃ (es : Array MapEntry) (clock : Nat), w.heap[b]? = some (.map es clock) ∧ entOk ek ev es.toList l ∧ StampOk es.toList clock ∧ ∃ i u, findL l kk 0 = some (i, u) ∧ (es.toList[i]?).map (·.born) = some n
  stab := fun h ⟨es, c, h1, h2⟩ => ⟨es, c, (h b rfl).trans h1, h2⟩
end
section
variable {K V : Type} {ek : K → Value} {ev : V → Value} {C : Cx} {Q : Exit → Act → World → Prop} {L : Regs} {O S : List Fact} {ops : Array Oper} {rest : List Oper} {ty : TypeId} {pos : String} {aft : Array Edge} {d : Nat} {dst : Option Tmp} {gu : Option (Nat × Bool)} {t kt et : TypeId} {kd : TypeDesc} {x y z : Operand} {b : Nat} {l : List (K × V)}
theorem y_lookupZA [DecidableEq K] {kk : K} (d0 : V) (hk : KeyA C.P kt kd ek) [h : HasMz O b ek ev l] (ht : C.P.underlying t = some (.map kt et)) (hz : ∀ w, (zeroValue et).run C.P w = .ok (ev d0) w)
    (hx : val L x = some (.map (some b))) (hy : val L y = some (ek kk)) : Yi C ⟨dst, .lookup t x y true, ty, pos, aft, gu⟩ L O S (.tuple #[ev ((getL l kk).getD d0), .bool (getL l kk).isSome]) :=
  yi_val (by intro c h; cases h) fun a w hr hp => by
    obtain ⟨es, clock, hb, he, _⟩ := (hp.own _ h.mem).1
    have hf := findKey_eq hk w es.toList l kk he
    have hg := findL_get l kk 0
    simp only [execOp, hr.val hx, hr.val hy, Instr.lookup, Sem.run_bind, run_underlying ht, Result.andThen_ok, run_getObj hb, Sem.run_pure, hk.check, hf]
    cases hfl : findL l kk 0 with
    | none => rw [hfl] at hg; simp only [Option.map_none] at hg; simp [← hg, hz]
    | some p => rw [hfl] at hg; simp only [Option.map_some] at hg; simp [← hg]
theorem y_lookupZA1 [DecidableEq K] {kk : K} (d0 : V) (hk : KeyA C.P kt kd ek) [h : HasMz O b ek ev l] (ht : C.P.underlying t = some (.map kt et)) (hz : ∀ w, (zeroValue et).run C.P w = .ok (ev d0) w)
    (hx : val L x = some (.map (some b))) (hy : val L y = some (ek kk)) : Yi C ⟨dst, .lookup t x y false, ty, pos, aft, gu⟩ L O S (ev ((getL l kk).getD d0)) :=
  yi_val (by intro c h; cases h) fun a w hr hp => by
    obtain ⟨es, clock, hb, he, _⟩ := (hp.own _ h.mem).1
    have hf := findKey_eq hk w es.toList l kk he
    have hg := findL_get l kk 0
    simp only [execOp, hr.val hx, hr.val hy, Instr.lookup, Sem.run_bind, run_underlying ht, Result.andThen_ok, run_getObj hb, Sem.run_pure, hk.check, hf]
    cases hfl : findL l kk 0 with
    | none => rw [hfl] at hg; simp only [Option.map_none] at hg; simp [← hg, hz]
    | some p => rw [hfl] at hg; simp only [Option.map_some] at hg; simp [← hg]
theorem oj_mapUpdateZA [DecidableEq K] {kk : K} {v : V} {O' : List Fact} (hk : KeyA C.P kt kd ek) [hu : UpdMz O b ek ev l (mz ek ev b (putL l kk v)) O'] (ht : C.P.underlying t = some (.map kt et))
    (hx : val L x = some (.map (some b))) (hy : val L y = some (ek kk)) (hz : val L z = some (ev v)) (k : OJ C ops Q rest L O' S) : OJ C ops Q (⟨none, .mapUpdate t x y z, ty, pos, aft, none⟩ :: rest) L O S := by
  intro a w hr hp
  unfold wpListIn
  rw [if_pos (by simp [Region.wanted])]
  refine ⟨fun _ _ => trivial, ?_⟩
  rw [Oper.semAt_eq _ _ _ (by intro c h; cases h)]
  have hown := hp.own _ hu.rep.mem
  obtain ⟨es, clock, hb, he, hs1, hs2⟩ := hown.1
  have hlt : b < w.heap.size := (hown.2 b rfl).1
  have hf := findKey_eq hk w es.toList l kk he
  have key : ∃ es' clock', (execOp a.eval ⟨none, .mapUpdate t x y z, ty, pos, aft, none⟩).run C.P w = .ok .skip { w with heap := w.heap.setIfInBounds b (.map es' clock') } ∧ entOk ek ev es'.toList (putL l kk v) ∧ StampOk es'.toList clock' := by
    cases hfl : findL l kk 0 with
    | none =>
      rw [hfl] at hf
      refine ⟨es.push ⟨ek kk, ev v, clock⟩, clock + 1, ?_, ?_, ?_⟩
      · simp only [execOp, hr.val hx, hr.val hy, hr.val hz, Instr.mapUpdate, Sem.run_bind, run_underlying ht, Result.andThen_ok, run_getObj hb, hk.check, hf, Option.map_none, Sem.run_pure, MapKept.run_setObj_map _ hb]
      · unfold entOk at he ⊢
        rw [findL_none l kk 0 hfl, Array.toList_push, List.map_append, he, List.map_append]; rfl
      · rw [Array.toList_push]
        refine ⟨fun e he => ?_, ?_⟩
        · rcases List.mem_append.1 he with h | h
          · have := hs1 e h; omega
          · simp at h; rw [h]; simp
        · rw [List.map_append]
          refine List.nodup_append.2 ⟨hs2, by simp, fun p hp q hq => ?_⟩
          obtain ⟨e, he, rfl⟩ := List.mem_map.1 hp
          have := hs1 e he
          simp at hq
          omega
    | some p =>
      obtain ⟨i, u⟩ := p
      rw [hfl] at hf
      obtain ⟨h1, h2⟩ := ent_put (v := v) he hfl
      have hborn : (es.modify i fun e => { e with key := ek kk, val := ev v }).toList.map (·.born) = es.toList.map (·.born) := by
        rw [Array.toList_modify]
        apply List.ext_getElem?
        intro j
        rw [List.getElem?_map, List.getElem?_map, List.getElem?_modify]
        cases es.toList[j]? with
        | none => rfl
        | some e => simp; split <;> rfl
      refine ⟨_, clock, ?_, h2, ?_⟩
      · simp only [execOp, hr.val hx, hr.val hy, hr.val hz, Instr.mapUpdate, Sem.run_bind, run_underlying ht, Result.andThen_ok, run_getObj hb, hk.check, hf, Option.map_some, Sem.run_pure, h1, Instr.keyThatStays, hk.bits, if_true, MapKept.run_setObj_map _ hb]
      · refine ⟨fun e he => ?_, by rw [hborn]; exact hs2⟩
        have : e.born ∈ es.toList.map (·.born) := by rw [← hborn]; exact List.mem_map.2 ⟨e, he, rfl⟩
        obtain ⟨e', he', h⟩ := List.mem_map.1 this
        rw [← h]; exact hs1 e' he'
  obtain ⟨es', clock', hrun, he', hst⟩ := key
  rw [hrun]
  show wpListIn _ _ _ _ _ _ _ _
  refine k _ _ hr ?_
  refine hp.write hu.rep rfl rfl rfl (by simp) (fun c _ hc => ?_) ⟨es', clock', ?_, he', hst⟩ (fun i hi => ?_)
  · have hne : b ≠ c := fun e => hc e.symm
    simp [hne]
  · simp [hlt]
  · have hi' : i = b := hi
    subst hi'
    exact ⟨by simpa using hlt, .inl rfl⟩
theorem oj_rangeK (ht : C.P.underlying t = some (.map kt et)) (hx : val L x = some (.map (some b))) (hdN : Nat.blt d C.N = true) (k : ∀ r, OJ C ops Q rest ((d, .pointer (some ⟨r, 0, none⟩)) :: L) (mitK ek ev b r l l none :: O) S) :
    OJ C ops Q (⟨some d, .range t x, ty, pos, aft, none⟩ :: rest) L (mz ek ev b l :: O) S := by
  intro a w hr hp
  have hdN' : d < C.N := by simpa [Nat.blt_eq] using hdN
  unfold wpListIn
  rw [if_pos (by simp [Region.wanted])]
  refine ⟨fun _ _ => trivial, ?_⟩
  rw [Oper.semAt_eq _ _ _ (by intro c h; cases h)]
  have hown := hp.own _ (List.mem_cons_self ..)
  obtain ⟨es, clock, hb, he, hs1, hs2⟩ := hown.1
  have hlt : b < w.heap.size := (hown.2 b rfl).1
  have hrun := run_range_map w t kt et b es clock ht hb
  have hrun' : (execOp a.eval ⟨some d, .range t x, ty, pos, aft, none⟩).run C.P w = .ok (.value (.pointer (some ⟨w.heap.size, 0, none⟩))) (w.alloc (.mapIter (some b) clock #[] clock)) := by
    simp only [execOp, hr.val hx, Sem.run_bind, hrun, Result.andThen_ok, Sem.run_pure]
  rw [hrun']
  show wpListIn _ _ _ _ _ _ _ _
  refine k w.heap.size _ _ (hr.put hdN' _) ?_
  have hg : Grow w (w.alloc (.mapIter (some b) clock #[] clock)) := (Below.refl _ _).alloc (Nat.le_refl _) _
  refine hp.write (.head _ _ _) hg.os hg.tape hg.output hg.size (fun c hc _ => hg.block c hc) ⟨⟨by omega, es, clock, clock, #[], clock, (hg.block b hlt).trans hb, heap_alloc_new w _, hs2, hs1, Nat.le_refl _, Nat.le_refl _, ?_, fun p h => (by cases h)⟩, es, clock, (hg.block b hlt).trans hb, he, hs1, hs2⟩ (fun i hi => ?_)
  · have : leftOf es #[] = es := by unfold leftOf; simp
    rw [this]; exact he
  · rcases hi with hi | hi
    · subst hi; exact ⟨Nat.lt_of_lt_of_le hlt hg.size, .inl rfl⟩
    · subst hi; exact ⟨by simp, .inr (Nat.le_refl _)⟩
theorem oj_nextK {r : Nat} {left : List (K × V)} {cur : Option (K × V)} (hx : val L x = some (.pointer (some ⟨r, 0, none⟩))) (hdN : Nat.blt d C.N = true)
    (k : ∀ p, nxOk left p → OJ C ops Q rest ((d, nxV ek ev p) :: L) (mitK ek ev b r l (nxL left p) (nxC cur p) :: O) S) : OJ C ops Q (⟨some d, .next x false, ty, pos, aft, none⟩ :: rest) L (mitK ek ev b r l left cur :: O) S := by
  intro a w hr hp
  have hdN' : d < C.N := by simpa [Nat.blt_eq] using hdN
  unfold wpListIn
  rw [if_pos (by simp [Region.wanted])]
  refine ⟨fun _ _ => trivial, ?_⟩
  rw [Oper.semAt_eq _ _ _ (by intro c h; cases h)]
  have hown := hp.own _ (List.mem_cons_self ..)
  obtain ⟨hne, es, clock, since, seen, c0, hb, hi, hnd, hold, hsc, hsk, hent, hcur⟩ := hown.1.1
  have hmz := hown.1.2
  rcases run_next_at (P := C.P) w ty r b since c0 seen es clock hi hb hold hsc with ⟨h0, hrun⟩ | ⟨e, he, w1, hal, hrun⟩
  · have hrun' : (execOp a.eval ⟨some d, .next x false, ty, pos, aft, none⟩).run C.P w = .ok (.value (.tuple #[.bool false])) w := by
      simp only [execOp, hr.val hx, Sem.run_bind, hrun, Result.andThen_ok, Sem.run_pure]
    rw [hrun']
    show wpListIn _ _ _ _ _ _ _ _
    refine k none ?_ _ _ (hr.put hdN' _) hp
    have hz : (leftOf es seen).toList = [] := by rw [← Array.length_toList] at h0; exact List.eq_nil_of_length_eq_zero h0
    unfold entOk at hent
    rw [hz] at hent
    show left = []
    simpa using hent.symm
  · have hrun' : (execOp a.eval ⟨some d, .next x false, ty, pos, aft, none⟩).run C.P w = .ok (.value (.tuple #[.bool true, e.key, e.val])) (ChangeMaps.setBlock w1 r (.mapIter (some b) since (seen.push e.born) clock)) := by
      simp only [execOp, hr.val hx, Sem.run_bind, hrun, Result.andThen_ok, Sem.run_pure]
    rw [hrun']
    show wpListIn _ _ _ _ _ _ _ _
    obtain ⟨i, hi2⟩ := List.mem_iff_getElem?.1 he
    have hlen := congrArg (fun l => l[i]?) hent
    simp only [List.getElem?_map, hi2, Option.map_some] at hlen
    cases hl : left[i]? with
    | none => rw [hl] at hlen; cases hlen
    | some p =>
      rw [hl] at hlen
      simp only [Option.map_some, Option.some.injEq, Prod.mk.injEq] at hlen
      have hk := k (some (i, p)) hl (a.put (some d) (.tuple #[.bool true, ek p.1, ev p.2])) (ChangeMaps.setBlock w1 r (.mapIter (some b) since (seen.push e.born) clock)) (hr.put hdN' _)
      rw [hlen.1, hlen.2]
      refine hk ?_
      have hw1 : w1.os = w.os ∧ w1.tape = w.tape ∧ w1.output = w.output ∧ w1.heap = w.heap := by rcases hal with rfl | rfl <;> exact ⟨rfl, rfl, rfl, rfl⟩
      have hrlt : r < w.heap.size := (hown.2 r (.inr rfl)).1
      have hem : e ∈ es.toList := by
        have := List.mem_of_getElem? hi2
        unfold leftOf at this
        rw [Array.toList_filter] at this
        exact (List.mem_filter.1 this).1
      refine hp.write (.head _ _ _) hw1.1 hw1.2.1 hw1.2.2.1 (by simp [ChangeMaps.setBlock, hw1.2.2.2]) (fun c _ hc => ?_) ⟨⟨hne, es, clock, since, seen.push e.born, clock, ?_, ?_, hnd, hold, hsk, hsk, ?_, ?_⟩, (mz ek ev b l).stab (fun j hj => ?_) hmz⟩ (fun j hj => ?_)
      · have : r ≠ c := fun e => hc (.inr e.symm)
        simp [ChangeMaps.setBlock, hw1.2.2.2, this]
      · show (w1.heap.setIfInBounds r _)[b]? = _
        rw [hw1.2.2.2, Array.getElem?_setIfInBounds, if_neg (fun h => hne (Eq.symm h))]; exact hb
      · simp [ChangeMaps.setBlock, hw1.2.2.2, hrlt]
      · unfold entOk at hent ⊢
        rw [left_push hnd hi2, map_eraseIdx', hent, ← map_eraseIdx']; rfl
      · intro q hq
        cases hq
        exact ⟨rfl, e, hem, ⟨seen, rfl⟩, hlen.1, hlen.2⟩
      · have hj : j = b := hj
        subst hj
        show (w1.heap.setIfInBounds r _)[j]? = _
        rw [hw1.2.2.2, Array.getElem?_setIfInBounds, if_neg (fun h => hne (Eq.symm h))]
      · refine ⟨?_, .inl hj⟩
        have := (hown.2 j hj).1
        simpa [ChangeMaps.setBlock, hw1.2.2.2] using this
class HasMitK (O : List Fact) (r : Nat) (ek : outParam (K → Value)) (ev : outParam (V → Value)) (b : outParam Nat) (l left : outParam (List (K × V))) (cur : outParam (Option (K × V))) : Prop where
  mem : mitK ek ev b r l left cur ∈ O
instance (priority := 900) HasMitK.tail (f : Fact) (O : List Fact) (r : Nat) (ek : K → Value) (ev : V → Value) (b : Nat) (l left : List (K × V)) (cur : Option (K × V)) [h : HasMitK O r ek ev b l left cur] : HasMitK (f :: O) r ek ev b l left cur := ⟨List.mem_cons_of_mem _ h.mem⟩
instance (priority := 1000) HasMitK.head (O : List Fact) (r : Nat) (ek : K → Value) (ev : V → Value) (b : Nat) (l left : List (K × V)) (cur : Option (K × V)) : HasMitK (mitK ek ev b r l left cur :: O) r ek ev b l left cur := ⟨List.mem_cons_self ..⟩
theorem y_entryK {r : Nat} {left : List (K × V)} {cur : Option (K × V)} {p : K × V} [h : HasMitK O r ek ev b l left cur] (hx : val L x = some (.pointer (some ⟨r, 0, none⟩))) (hc : cur = some p) : Yi C ⟨dst, .entry x, ty, pos, aft, gu⟩ L O S (.tuple #[ek p.1, ev p.2]) :=
  yi_val (by intro c h; cases h) fun a w hr hp => by
    obtain ⟨hne, es, clock, since, seen, c0, hb, hi, hnd, hold, hsc, hsk, hent, hcur⟩ := (hp.own _ h.mem).1.1
    obtain ⟨hcc, e, he, ⟨s, rfl⟩, h1, h2⟩ := hcur p hc
    subst hcc
    have hrun := run_entry_at (P := C.P) w r b since s es c0 e hi hb he hnd
    simp only [execOp, hr.val hx, Sem.run_bind, hrun, Result.andThen_ok, Sem.run_pure, h1, h2]
/-- The loop is over. -/
theorem cj_endK {cd : Code} {r : Nat} {left : List (K × V)} {R : List Fact} {cur : Option (K × V)} [ht : Take1 O (mitK ek ev b r l left cur) R] (k : CJ C cd Q L (mz ek ev b l :: R) S) : CJ C cd Q L O S := fun a w hr hp =>
  k a w hr (hp.rep1 _ ht (hp.ownT ht).1.2 (fun _ h => .inl h))
theorem ent_at [DecidableEq K] {es : Array MapEntry} {l : List (K × V)} {kk : K} {i : Nat} {u : V} (he : entOk ek ev es.toList l) (hi : findL l kk 0 = some (i, u)) : ∃ e, es.toList[i]? = some e ∧ e.key = ek kk ∧ e.val = ev u := by
  obtain ⟨_, h2, _, h4⟩ := findL_ge l kk 0 i u hi
  rw [Nat.sub_zero] at h4
  have h5 := congrArg (fun l => l[i]?) he
  simp only [List.getElem?_map, h4, Option.map_some] at h5
  cases h : es.toList[i]? with
  | none => rw [h] at h5; cases h5
  | some e =>
    rw [h] at h5
    simp only [Option.map_some, Option.some.injEq, Prod.mk.injEq] at h5
    exact ⟨e, rfl, h5.1, h5.2⟩
/-- An entry that is there, taken to be turned. -/
theorem oj_mapEntryA [DecidableEq K] {kk : K} {v : V} {O' : Nat → List Fact} (hk : KeyA C.P kt kd ek) (hg : getL l kk = some v) [hu : ∀ n, UpdMz O b ek ev l (mzS ek ev b l kk n) (O' n)] (ht : C.P.underlying t = some (.map kt et))
    (hx : val L x = some (.map (some b))) (hy : val L y = some (ek kk)) (hdN : Nat.blt d C.N = true) (k : ∀ n : Nat, OJ C ops Q rest ((d, .tuple #[ev v, .int .i64 (n : Nat)]) :: L) (O' n) S) : OJ C ops Q (⟨some d, .mapEntry t x y, ty, pos, aft, none⟩ :: rest) L O S := by
  intro a w hr hp
  have hdN' : d < C.N := by simpa [Nat.blt_eq] using hdN
  unfold wpListIn
  rw [if_pos (by simp [Region.wanted])]
  refine ⟨fun _ _ => trivial, ?_⟩
  rw [Oper.semAt_eq _ _ _ (by intro c h; cases h)]
  have hown := hp.own _ (hu 0).rep.mem
  obtain ⟨es, clock, hb, he, hs1, hs2⟩ := hown.1
  have hlt : b < w.heap.size := (hown.2 b rfl).1
  have hf := findKey_eq hk w es.toList l kk he
  have hfg := findL_get l kk 0
  rw [hg] at hfg
  cases hfl : findL l kk 0 with
  | none => rw [hfl] at hfg; cases hfg
  | some p =>
    obtain ⟨i, u⟩ := p
    rw [hfl] at hfg hf
    simp only [Option.map_some, Option.some.injEq] at hfg
    subst hfg
    obtain ⟨h1, h2⟩ := ent_put (v := u) he hfl
    obtain ⟨e, hei, hkey⟩ := ent_at he hfl
    have hsame : es.modify i (fun x => { x with key := ek kk }) = es := by
      apply Array.toList_inj.1
      rw [Array.toList_modify, ChangeMaps.modify_eq_set _ _ _ _ hei]
      have : ({ e with key := ek kk } : MapEntry) = e := by rw [← hkey.1]
      rw [this]
      apply List.ext_getElem?
      intro j
      rw [List.getElem?_set]
      split
      · next h => subst h; rw [if_pos (List.getElem?_eq_some_iff.1 hei).1]; exact hei.symm
      · rfl
    have hborn : ((es[i]?).map (fun x => (x.born : Int))).getD 0 = (e.born : Int) := by rw [← Array.getElem?_toList, hei]; rfl
    have hrun : (execOp a.eval ⟨some d, .mapEntry t x y, ty, pos, aft, none⟩).run C.P w = .ok (.value (.tuple #[ev u, .int .i64 (e.born : Nat)])) { w with heap := w.heap.setIfInBounds b (.map es clock) } := by
      simp only [execOp, hr.val hx, hr.val hy, Instr.mapEntry, Sem.run_bind, run_underlying ht, Result.andThen_ok, run_getObj hb, hk.check, hf, Option.map_some, h1, Instr.keyThatStays, hk.bits, if_true, Sem.run_pure, MapKept.run_setObj_map _ hb, hborn, goInt, hsame]
    rw [hrun]
    show wpListIn _ _ _ _ _ _ _ _
    refine k e.born _ _ (hr.put hdN' _) ?_
    refine hp.write (hu e.born).rep rfl rfl rfl (by simp) (fun c _ hc => ?_) ⟨es, clock, ?_, he, ⟨hs1, hs2⟩, i, u, hfl, by rw [hei]; rfl⟩ (fun j hj => ?_)
    · have hne : b ≠ c := fun e => hc e.symm
      simp [hne]
    · simp [hlt]
    · have hj' : j = b := hj
      subst hj'
      exact ⟨by simpa using hlt, .inl rfl⟩
class UpdMzS [DecidableEq K] (O : List Fact) (b : Nat) (ek : outParam (K → Value)) (ev : outParam (V → Value)) (l : outParam (List (K × V))) (kk : outParam K) (n : outParam Nat) (f' : Fact) (O' : outParam (List Fact)) : Prop where
  rep : Rep O (mzS ek ev b l kk n) f' O'
instance (priority := 900) UpdMzS.tail [DecidableEq K] (f : Fact) (O O' : List Fact) (b : Nat) (ek : K → Value) (ev : V → Value) (l : List (K × V)) (kk : K) (n : Nat) (f' : Fact) [h : UpdMzS O b ek ev l kk n f' O'] : UpdMzS (f :: O) b ek ev l kk n f' (f :: O') := ⟨.tail _ _ _ _ _ h.rep⟩
instance (priority := 1000) UpdMzS.head [DecidableEq K] (O : List Fact) (b : Nat) (ek : K → Value) (ev : V → Value) (l : List (K × V)) (kk : K) (n : Nat) (f' : Fact) : UpdMzS (mzS ek ev b l kk n :: O) b ek ev l kk n f' (f' :: O) := ⟨.head _ _ _⟩
theorem fidxB : ∀ (l : List MapEntry) (i n : Nat), (l.map (·.born)).Nodup → (l[i]?).map (·.born) = some n → l.findIdx? (fun e => (e.born : Int) == (n : Int)) = some i
  | [], _, _, _, h => by simp at h
  | e :: l, 0, n, _, h => by
    simp only [List.getElem?_cons_zero, Option.map_some, Option.some.injEq] at h
    rw [List.findIdx?_cons, if_pos (by rw [h]; exact beq_self_eq_true _)]
  | e :: l, i + 1, n, hn, h => by
    rw [List.getElem?_cons_succ] at h
    rw [List.map_cons, List.nodup_cons] at hn
    have hne : ¬ ((e.born : Int) == (n : Int)) = true := fun h9 => by
      have h8 : e.born = n := by have := beq_iff_eq.1 h9; omega
      cases hl : l[i]? with
      | none => rw [hl] at h; cases h
      | some q =>
        rw [hl] at h
        simp only [Option.map_some, Option.some.injEq] at h
        exact hn.1 (List.mem_map.2 ⟨q, List.mem_of_getElem? hl, by rw [h, h8]⟩)
    rw [List.findIdx?_cons, if_neg hne, fidxB l i n hn.2 h]; rfl
theorem oj_entryStoreA [DecidableEq K] {kk : K} {v : V} {n : Nat} {O' : List Fact} [hu : UpdMzS O b ek ev l kk n (mz ek ev b (putL l kk v)) O'] (hx : val L x = some (.map (some b))) (hy : val L y = some (.int .i64 (n : Nat))) (hz : val L z = some (ev v)) (k : OJ C ops Q rest L O' S) :
    OJ C ops Q (⟨none, .entryStore t x y z, ty, pos, aft, none⟩ :: rest) L O S := by
  intro a w hr hp
  unfold wpListIn
  rw [if_pos (by simp [Region.wanted])]
  refine ⟨fun _ _ => trivial, ?_⟩
  rw [Oper.semAt_eq _ _ _ (by intro c h; cases h)]
  have hown := hp.own _ hu.rep.mem
  obtain ⟨es, clock, hb, he, ⟨hs1, hs2⟩, i, u, hfl, hbn⟩ := hown.1
  have hlt : b < w.heap.size := (hown.2 b rfl).1
  obtain ⟨h1, h2⟩ := ent_put (v := v) he hfl
  obtain ⟨e, hei, hkey⟩ := ent_at he hfl
  have hfi : es.findIdx? (fun e => (e.born : Int) == (n : Int)) = some i := by
    rw [← fidxB es.toList i n hs2 hbn, ← List.findIdx?_toArray]
  have hmod : es.modify i (fun x => { x with val := ev v }) = es.modify i (fun x => { x with key := ek kk, val := ev v }) := by
    apply Array.toList_inj.1
    rw [Array.toList_modify, Array.toList_modify, ChangeMaps.modify_eq_set _ _ _ _ hei, ChangeMaps.modify_eq_set _ _ _ _ hei]
    rw [← hkey.1]
  have hborn : (es.modify i fun e => { e with key := ek kk, val := ev v }).toList.map (·.born) = es.toList.map (·.born) := by
    rw [Array.toList_modify]
    apply List.ext_getElem?
    intro j
    rw [List.getElem?_map, List.getElem?_map, List.getElem?_modify]
    cases es.toList[j]? with
    | none => rfl
    | some e => simp; split <;> rfl
  have hrun : (execOp a.eval ⟨none, .entryStore t x y z, ty, pos, aft, none⟩).run C.P w = .ok .skip { w with heap := w.heap.setIfInBounds b (.map (es.modify i fun x => { x with key := ek kk, val := ev v }) clock) } := by
    simp only [execOp, hr.val hx, hr.val hy, hr.val hz, Instr.entryStore, Sem.run_bind, run_getObj hb, Result.andThen_ok, asInt, asIntOf, Sem.run_pure, hfi, MapKept.run_setObj_map _ hb, hmod]
  rw [hrun]
  show wpListIn _ _ _ _ _ _ _ _
  refine k _ _ hr ?_
  refine hp.write hu.rep rfl rfl rfl (by simp) (fun c _ hc => ?_) ⟨_, clock, ?_, h2, fun e he => ?_, by rw [hborn]; exact hs2⟩ (fun j hj => ?_)
  · have hne : b ≠ c := fun e => hc e.symm
    simp [hne]
  · simp [hlt]
  · have : e.born ∈ es.toList.map (·.born) := by rw [← hborn]; exact List.mem_map.2 ⟨e, he, rfl⟩
    obtain ⟨e', he', h⟩ := List.mem_map.1 this
    rw [← h]; exact hs1 e' he'
  · have hj' : j = b := hj
    subst hj'
    exact ⟨by simpa using hlt, .inl rfl⟩
end
end Go.Sx
namespace Go.Proofs.YtppfniekcgnmjaaGreat.Ti
open Go Go.Sx Go.RowKit Um
/-- The least of m + f (s - m * c) over m < n, at most 2 ^ 30. -/
def fewB (f : Int → Int) (c s : Int) : Nat → Int
  | 0 => 1073741824
  | n + 1 => min (fewB f c s n) (n + f (s - n * c))
/-- how many of a kind may be taken -/
def mostN (c h s : Int) : Nat := (min h (s / c)).toNat
/-- How few pieces pay a sum. -/
def few : List Int → List Int → Int → Int
  | [], _, s => if s = 0 then 0 else 1073741824
  | c :: cs, hv, s => fewB (few cs hv.tail) c s (mostN c (hv.headD 0) s + 1)
def descN (f : Int → Int) (c s F : Int) : Nat → Nat
  | 0 => 0
  | n + 1 => if ((n + 1 : Nat) : Int) + f (s - ((n + 1 : Nat) : Int) * c) = F then n + 1 else descN f c s F n
/-- The payment with so few pieces. -/
def payL : List Int → List Int → Int → List Int
  | [], _, _ => []
  | c :: cs, hv, s =>
    let n := descN (few cs hv.tail) c s (few (c :: cs) hv s) (mostN c (hv.headD 0) s)
    (n : Int) :: payL cs hv.tail (s - n * c)
theorem fewB_le (f : Int → Int) (c s : Int) : ∀ n, fewB f c s n ≤ 1073741824
  | 0 => Int.le_refl _
  | n + 1 => by have := fewB_le f c s n; rw [fewB]; omega
theorem fewB_nn {f : Int → Int} (hf : ∀ s, 0 ≤ f s) (c s : Int) : ∀ n, 0 ≤ fewB f c s n
  | 0 => by rw [fewB]; omega
  | n + 1 => by have := fewB_nn hf c s n; have := hf (s - n * c); rw [fewB]; omega
theorem few_le : ∀ (cs hv : List Int) (s : Int), few cs hv s ≤ 1073741824
  | [], _, s => by rw [few]; split <;> omega
  | _ :: _, _, _ => fewB_le _ _ _ _
theorem few_nn : ∀ (cs hv : List Int) (s : Int), 0 ≤ few cs hv s
  | [], _, s => by rw [few]; split <;> omega
  | c :: cs, hv, s => fewB_nn (fun t => few_nn cs hv.tail t) c s _
theorem fewB_att {f : Int → Int} {c s : Int} : ∀ {n : Nat}, fewB f c s n < 1073741824 → ∃ m, m < n ∧ (m : Int) + f (s - m * c) = fewB f c s n
  | 0, h => absurd h (by rw [fewB]; omega)
  | n + 1, h => by
    by_cases h2 : fewB f c s n ≤ n + f (s - n * c)
    · have e : fewB f c s (n + 1) = fewB f c s n := by rw [fewB]; omega
      rw [e] at h ⊢
      obtain ⟨m, h3, h4⟩ := fewB_att h
      exact ⟨m, by omega, h4⟩
    · refine ⟨n, by omega, ?_⟩
      rw [fewB]; omega
theorem descN_stop {f : Int → Int} {c s F : Int} {n : Nat} (h : (n : Int) + f (s - n * c) = F) : descN f c s F n = n := by
  cases n with
  | zero => rfl
  | succ n => rw [descN, if_pos h]
theorem descN_down {f : Int → Int} {c s F : Int} {n : Nat} (h : ¬ (n : Int) + f (s - n * c) = F) : descN f c s F n = descN f c s F (n - 1) := by
  cases n with
  | zero => rfl
  | succ n => rw [descN, if_neg h]; rfl
theorem most_bd {c h s : Int} (hc : 1 ≤ c) (hh : 0 ≤ h) (hs : 0 ≤ s) : (mostN c h s : Int) ≤ h ∧ (mostN c h s : Int) * c ≤ s := by
  have h1 : 0 ≤ s / c := Int.ediv_nonneg hs (by omega)
  have h2 : (mostN c h s : Int) = min h (s / c) := Int.toNat_of_nonneg (by omega)
  have h3 : (s / c) * c ≤ s := Int.ediv_mul_le s (by omega)
  have h4 : min h (s / c) * c ≤ (s / c) * c := Int.mul_le_mul_of_nonneg_right (by omega) (by omega)
  rw [h2]
  omega
/-! ### Drawers -/
def haveB (cs l : List Int) : Bool := decide ((l.length : Int) = cs.length) && l.all (fun n => btw 0 n 50)
/-- the first kinds are such -/
def okC (cs : List Int) : Nat → Bool
  | 0 => true
  | k + 1 => okC cs k && (match cs[k]? with | none => true | some c => btw 1 c 50000 && !(decide (0 < k) && decide (cs.getD (k - 1) 0 ≤ c)))
theorem okC_no {cs : List Int} {k : Nat} (h : okC cs k = false) : ∀ n, okC cs (k + n) = false
  | 0 => h
  | n + 1 => by rw [← Nat.add_assoc, okC, okC_no h n]; rfl
theorem okC_at {cs : List Int} : ∀ {n : Nat}, okC cs n = true → ∀ i c, i < n → cs[i]? = some c → 1 ≤ c ∧ c ≤ 50000
  | 0, _, i, _, hi, _ => absurd hi (by omega)
  | n + 1, h, i, c, hi, hc => by
    rw [okC, Bool.and_eq_true] at h
    by_cases e : i = n
    · subst e
      have h2 := h.2
      rw [hc] at h2
      simp only [Bool.and_eq_true] at h2
      exact btw_t h2.1
    · exact okC_at h.1 i c (by omega) hc
def drwB (cs hv : List Int) : Bool := btw 1 cs.length 8 && haveB cs hv && okC cs cs.length
def CheE (cs hv : List Int) : Int := if drwB cs hv then 0 else 80
def PayE (cs hv : List Int) (s : Int) : Int := if drwB cs hv then (if btw 0 s 2000 then (if few cs hv s < 1073741824 then 0 else 4) else 7) else 80
def PayL (cs hv : List Int) (s : Int) : List Int := if PayE cs hv s = 0 then payL cs hv s else []
theorem okC_step {cs : List Int} {k : Nat} {x : Int} (hx : cs[k]? = some x) : okC cs (k + 1) = (okC cs k && !(!(btw 1 x 50000) || (decide (0 < (k : Int)) && decide (cs.getD ((k : Int) - 1).toNat 0 ≤ x)))) := by
  rw [okC, hx, show ((k : Int) - 1).toNat = k - 1 by omega]
  have e : decide (0 < (k : Int)) = decide (0 < k) := decide_eq_decide.2 (by omega)
  rw [e, Bool.not_or, Bool.not_not]
theorem drw_no1 {cs hv : List Int} (h : (!(btw 1 cs.length 8) || !(haveB cs hv)) = true) : drwB cs hv = false := by
  unfold drwB
  revert h
  cases btw 1 cs.length 8 <;> cases haveB cs hv <;> simp
theorem drw_no2 {cs hv : List Int} {k : Nat} (h : okC cs k = false) (hk : k ≤ cs.length) : drwB cs hv = false := by
  have := okC_no h (cs.length - k)
  rw [show k + (cs.length - k) = cs.length by omega] at this
  unfold drwB; rw [this, Bool.and_false]
theorem drw_yes {cs hv : List Int} (h : (!(btw 1 cs.length 8) || !(haveB cs hv)) = false) (h2 : okC cs cs.length = true) : drwB cs hv = true := by
  unfold drwB; rw [h2]
  revert h
  cases btw 1 cs.length 8 <;> cases haveB cs hv <;> simp
structure DrwOk (cs hv : List Int) : Prop where
  n : 1 ≤ cs.length ∧ cs.length ≤ 8
  l : hv.length = cs.length
  c : ∀ c ∈ cs, 1 ≤ c ∧ c ≤ 50000
  h : ∀ h ∈ hv, 0 ≤ h ∧ h ≤ 50
theorem drw_ok {cs hv : List Int} (h : drwB cs hv = true) : DrwOk cs hv := by
  unfold drwB haveB at h
  simp only [Bool.and_eq_true, decide_eq_true_eq] at h
  obtain ⟨⟨h1, h2, h3⟩, h4⟩ := h
  have h1 := btw_t h1
  refine ⟨by omega, by omega, fun c hc => ?_, fun x hx => btw_t (all_mem h3 hx)⟩
  obtain ⟨i, hi⟩ := List.mem_iff_getElem?.1 hc
  exact okC_at h4 i c (List.getElem?_eq_some_iff.1 hi).1 hi
/-! ### What is known of sums -/
abbrev ekS2 (k : Int × Int) : Value := .agg #[.int .i64 k.1, .int .i64 k.2]
abbrev evI (n : Int) : Value := .int .i64 n
def fewK (cs hv : List Int) (k : Int × Int) : Int := few (cs.drop k.1.toNat) (hv.drop k.1.toNat) k.2
def knP (cs hv : List Int) (l : List ((Int × Int) × Int)) : Prop := ∀ k v, getL l k = some v → v = fewK cs hv k
theorem knP_nil (cs hv : List Int) : knP cs hv [] := fun _ _ h => by cases h
theorem knP_put {cs hv : List Int} {l : List ((Int × Int) × Int)} (h : knP cs hv l) {k : Int × Int} {v : Int} (hv2 : v = fewK cs hv k) : knP cs hv (Go.Sx.putL l k v) := fun k' v' h' => by
  rw [getL_put] at h'
  split at h'
  · next e => subst e; injection h' with h'; rw [← h']; exact hv2
  · exact h k' v' h'
theorem few_at {cs hv : List Int} {k : Nat} {c h : Int} (s : Int) (hc : cs[k]? = some c) (hh : hv[k]? = some h) : few (cs.drop k) (hv.drop k) s = fewB (few (cs.drop (k + 1)) (hv.drop (k + 1))) c s (mostN c h s + 1) := by
  rw [dropG hc, dropG hh]; rfl
theorem pay_at {cs hv : List Int} {k : Nat} {c h : Int} (s : Int) (hc : cs[k]? = some c) (hh : hv[k]? = some h) :
    payL (cs.drop k) (hv.drop k) s = (descN (few (cs.drop (k + 1)) (hv.drop (k + 1))) c s (few (cs.drop k) (hv.drop k) s) (mostN c h s) : Int) :: payL (cs.drop (k + 1)) (hv.drop (k + 1)) (s - descN (few (cs.drop (k + 1)) (hv.drop (k + 1))) c s (few (cs.drop k) (hv.drop k) s) (mostN c h s) * c) := by
  rw [dropG hc, dropG hh]; rfl
theorem few_end {cs hv : List Int} {k : Nat} (h : cs.length ≤ k) (s : Int) : few (cs.drop k) (hv.drop k) s = if s = 0 then 0 else 1073741824 := by
  rw [List.drop_of_length_le h]; rfl
theorem most_eq {c h s : Int} (hh : 0 ≤ h) (hc : 1 ≤ c) (hs : 0 ≤ s) : (mostN c h s : Int) = min h (s / c) :=
  Int.toNat_of_nonneg (by have := Int.ediv_nonneg hs (show 0 ≤ c by omega); omega)
end Go.Proofs.YtppfniekcgnmjaaGreat.Ti
namespace Go.Proofs.YtppfniekcgnmjaaGreat.Ti
open Go Go.Sx Go.RowKit
theorem eq_drop {α : Type} [DecidableEq α] (a b : List α) (k : Nat) (x y : α) (hx : a[k]? = some x) (hy : b[k]? = some y) : decide (a.drop k = b.drop k) = (decide (x = y) && decide (a.drop (k + 1) = b.drop (k + 1))) := by
  obtain ⟨h1, h2⟩ := List.getElem?_eq_some_iff.1 hx
  obtain ⟨h3, h4⟩ := List.getElem?_eq_some_iff.1 hy
  rw [List.drop_eq_getElem_cons h1, h2, List.drop_eq_getElem_cons h3, h4]
  by_cases h : x = y <;> by_cases h5 : a.drop (k + 1) = b.drop (k + 1) <;> simp [h, h5]
theorem eq_len {α : Type} [DecidableEq α] {a b : List α} (h : ¬ (a.length : Int) = b.length) : decide (a = b) = false := decide_eq_false (fun e => h (by rw [e]))
theorem len_of {a b : List Int} (h : ((a.length : Int) == (b.length : Int)) = true) : a.length = b.length := by
  have h2 : (a.length : Int) = b.length := by simpa using h
  omega
theorem same_start (a b : List Int) : (((a.length : Int) == (b.length : Int)) && decide (a.drop 0 = b.drop 0)) = decide (a = b) := by
  rw [List.drop_zero, List.drop_zero]
  by_cases h : (a.length : Int) = b.length
  · rw [show ((a.length : Int) == (b.length : Int)) = true by simpa using h]; rfl
  · rw [show ((a.length : Int) == (b.length : Int)) = false by simpa using h, eq_len h]; rfl
theorem beq_dec {x y : Int} {c : Bool} : ((x == y) && c) = (decide (x = y) && c) := by
  by_cases h : x = y <;> simp [h]
def ringI (n m : Int) : Int := if m ≤ 0 then 0 else ((n.tmod m) + m).tmod m
theorem ringI_bd (n m : Int) (hm : 1 ≤ m) : 0 ≤ ringI n m ∧ ringI n m < m := by
  unfold ringI
  rw [if_neg (by omega)]
  have h1 : -m < n.tmod m ∧ n.tmod m < m := by
    rcases Int.lt_or_le n 0 with h | h
    · have h2 := Int.tmod_lt_of_pos (-n) (show (0 : Int) < m by omega)
      have h3 := Int.tmod_nonneg m (show 0 ≤ -n by omega)
      rw [Int.neg_tmod] at h2 h3
      omega
    · have h2 := Int.tmod_lt_of_pos n (show (0 : Int) < m by omega)
      have h3 := Int.tmod_nonneg m h
      omega
  exact ⟨Int.tmod_nonneg m (by omega), Int.tmod_lt_of_pos _ (by omega)⟩
def pickI (l : List Int) (i : Int) : Int := if l.length = 0 then 0 else l.getD (ringI i l.length).toNat default
theorem gd_of {α : Type} {l : List α} {i : Nat} {x : α} (d : α) (h : l[i]? = some x) : l.getD i d = x := by rw [List.getD_eq_getElem?_getD, h]; rfl
end Go.Proofs.YtppfniekcgnmjaaGreat.Ti
namespace Go.Proofs.YtppfniekcgnmjaaGreat.Ti
open Go.Sx Go.RowKit
set_option maxRecDepth 20000

end Go.Proofs.YtppfniekcgnmjaaGreat.Ti
namespace Go.Proofs.YtppfniekcgnmjaaGreat.Ti
open Go.Sx Go.RowKit Um
set_option maxRecDepth 20000
theorem k_within (n lo hi : Int) (w : World)  : Calls Tryz.prog 34 #[.int .i64 n, .int .i64 lo, .int .i64 hi] w (fun e w' => e = .returned (.bool (btw lo n hi)) ∧ Grow w w') := by
  refine enter_pure (args := [.int .i64 n, .int .i64 lo, .int .i64 hi]) [] Tryz.func34 rfl (by rw [Tryz.ntmps34]; simp) (by simp) ?_
  refine cj_seq ?_
  refine cj_regionG (gj_step (y_assign rfl) rfl rfl rfl (gj_nil ?_))
  refine ej_th (cj_seq ?_)
  refine cj_regionG (gj_step (y_move rfl) rfl rfl rfl (gj_step (y_move rfl) rfl rfl rfl (gj_step (y_geq rfl rfl) rfl rfl rfl (gj_step (y_move rfl) rfl rfl rfl (gj_g 3 10 13 rfl rfl rfl rfl (fun hg10 => gj_yes rfl rfl rfl (y_move rfl) rfl rfl (gj_yes rfl rfl rfl (y_move rfl) rfl rfl (gj_yes rfl rfl rfl (y_leq rfl rfl) rfl rfl (gj_nil rfl)))) (gj_step (y_and rfl rfl rfl) rfl rfl rfl (gj_step (y_assign rfl) rfl rfl rfl (gj_nil ?_))))))))
  refine ej_th (cj_ret ?_)
  exact ej_ret1 rfl Tryz.results34 rfl (fun w' hp => ⟨rfl, hp.below⟩)

end Go.Proofs.YtppfniekcgnmjaaGreat.Ti
namespace Go.Proofs.YtppfniekcgnmjaaGreat.Ti
open Go.Sx Go.RowKit
set_option maxRecDepth 20000
theorem fa25_0 : FieldIs Tryz.prog 25 0 0 1 false := ⟨⟨_, _, Tryz.underlying25, rfl, rfl, Tryz.sizeOf23, Tryz.isAgg23, by decide⟩⟩
theorem fa25_1 : FieldIs Tryz.prog 25 1 1 1 false := ⟨⟨_, _, Tryz.underlying25, rfl, rfl, Tryz.sizeOf23, Tryz.isAgg23, by decide⟩⟩
end Go.Proofs.YtppfniekcgnmjaaGreat.Ti
namespace Go.Proofs.YtppfniekcgnmjaaGreat.Ti
open Go.Sx Go.RowKit Um
set_option maxRecDepth 20000
theorem k_hv1 (n : Int) (w : World)  : Calls Tryz.prog 95 #[.int .i64 n] w (fun e w' => e = .returned (.bool (!(btw 0 n 50))) ∧ Grow w w') := by
  refine enter_pure (args := [.int .i64 n]) [] Tryz.func95 rfl (by rw [Tryz.ntmps95]; simp) (by simp) ?_
  refine cj_seq ?_
  refine cj_regionG (gj_step (y_assign rfl) rfl rfl rfl (gj_nil ?_))
  refine ej_th (cj_seq ?_)
  refine cj_regionG ?_
  refine gj_step (y_move rfl) rfl rfl rfl (?_)
  refine gj_step (y_call Tryz.call34 rfl (fun w hp => k_within _ _ _ w)) rfl rfl rfl ?_
  refine gj_step (y_not rfl) rfl rfl rfl (gj_step (y_assign rfl) rfl rfl rfl (?_))
  refine gj_nil ?_
  refine ej_th (cj_ret ?_)
  exact ej_ret1 rfl Tryz.results95 rfl (fun w' hp => ⟨rfl, hp.below⟩)

theorem k_have (cs hv : List Int) (Ac Ah : Option Addr) (cc ch : Nat) (l : List Int) (A : Option Addr) (c : Nat) (w : World) (hl : Rd w 1 enInt A l) : Calls Tryz.prog 65 #[.agg #[.slice Ac cs.length cc, .slice Ah hv.length ch], .slice A l.length c] w (fun e w' => e = .returned (.bool (haveB cs l)) ∧ Grow w w') := by
  refine enter_pure (args := [.agg #[.slice Ac cs.length cc, .slice Ah hv.length ch], .slice A l.length c]) [sl (fun b => b < w.heap.size) 1 enInt A l] Tryz.func65 rfl (by rw [Tryz.ntmps65]; simp) (fun g hg => by simp at hg; subst hg; exact ⟨hl, fun _ h => h⟩) ?_
  refine cj_seq (cj_region ?_)
  refine oj_box rfl rfl rfl (fun b2 => ?_)
  refine oj_step (y_assign rfl) rfl rfl rfl ?_
  refine oj_nil ?_
  refine ej_th (cj_seq ?_)
  refine cj_regionG ?_
  refine gj_step (y_move rfl) rfl rfl rfl (gj_step (y_lenA Tryz.underlying23 rfl) rfl rfl rfl (gj_step (y_fa0 fa25_0 rfl) rfl rfl rfl (gj_step (y_load1 Tryz.isAgg23 rfl rfl) rfl rfl rfl (gj_step (y_lenA Tryz.underlying23 rfl) rfl rfl rfl (gj_step (y_eql rfl rfl) rfl rfl rfl (gj_step (y_move rfl) rfl rfl rfl (?_)))))))
  refine gj_g 3 11 14 rfl rfl rfl rfl (fun hg11 => gj_yes rfl rfl rfl (y_move rfl) rfl rfl (gj_yes rfl rfl rfl (y_call Tryz.call76 rfl (fun w hp => Pu.k_ContI l A c 95 #[] #[] (fun n => !(btw 0 n 50)) w hp.rd Tryz.call95 (fun x hx w1 hg => k_hv1 x w1))) rfl rfl (gj_yes rfl rfl rfl (y_not rfl) rfl rfl (gj_nil rfl)))) ?_
  refine gj_step (y_and rfl rfl rfl) rfl rfl rfl (gj_step (y_assign rfl) rfl rfl rfl (?_))
  refine gj_nil ?_
  refine ej_th (cj_ret ?_)
  refine ej_ret1 rfl Tryz.results65 rfl (fun w' hp => ⟨?_, hp.below⟩)
  rw [haveB, any_not, Bool.not_not]; rfl

theorem k_Check (cs hv : List Int) (Ac Ah : Option Addr) (cc ch : Nat) (w : World) (hc : Rd w 1 enInt Ac cs) (hh : Rd w 1 enInt Ah hv) : Calls Tryz.prog 33 #[.agg #[.slice Ac cs.length cc, .slice Ah hv.length ch]] w (fun e w' => e = .returned (.int .i64 (CheE cs hv)) ∧ Grow w w') := by
  have hlc := hc.len
  refine enter_pure (args := [.agg #[.slice Ac cs.length cc, .slice Ah hv.length ch]]) [sl (fun b => b < w.heap.size) 1 enInt Ac cs, sl (fun b => b < w.heap.size) 1 enInt Ah hv] Tryz.func33 rfl (by rw [Tryz.ntmps33]; simp) (fun g hg => by simp at hg; rcases hg with rfl | rfl; exact ⟨hc, fun _ h => h⟩; exact ⟨hh, fun _ h => h⟩) ?_
  refine cj_seq (cj_region ?_)
  refine oj_box rfl rfl rfl (fun b1 => ?_)
  refine oj_step (y_assign rfl) rfl rfl rfl ?_
  refine oj_nil ?_
  refine ej_th (cj_seq (cj_seq ?_))
  refine cj_regionG ?_
  refine gj_step (y_fa0 fa25_0 rfl) rfl rfl rfl (gj_step (y_load1 Tryz.isAgg23 rfl rfl) rfl rfl rfl (gj_step (y_lenA Tryz.underlying23 rfl) rfl rfl rfl (?_)))
  refine gj_step (y_call Tryz.call34 rfl (fun w hp => k_within _ _ _ w)) rfl rfl rfl ?_
  refine gj_step (y_not rfl) rfl rfl rfl (gj_step (y_move rfl) rfl rfl rfl (?_))
  refine gj_g 5 10 15 rfl rfl rfl rfl (fun hg10 => gj_yes rfl rfl rfl (y_loadN Tryz.isAgg25 Tryz.sizeOf25 rfl) rfl rfl (gj_yes rfl rfl rfl (y_fa fa25_1 rfl) rfl rfl (gj_yes rfl rfl rfl (y_load1 Tryz.isAgg23 rfl rfl) rfl rfl (gj_yes rfl rfl rfl (y_call Tryz.call65 rfl (fun w hp => k_have cs hv Ac Ah cc ch hv Ah ch w hp.rd)) rfl rfl (gj_yes rfl rfl rfl (y_not rfl) rfl rfl (gj_nil rfl)))))) ?_
  refine gj_step (y_or rfl rfl rfl) rfl rfl rfl (?_)
  refine gj_nil ?_
  refine ej_th ?_
  refine cj_cond rfl (fun h16 => ?_) (fun h16 => ?_)
  · have h16b := h16
    try simp only [sxb] at h16
    refine cj_seq ?_
    refine cj_regionG (gj_step (y_assign rfl) rfl rfl rfl (gj_nil ?_))
    refine ej_th (cj_ret (ej_then_ret ?_))
    refine ej_ret1 rfl Tryz.results33 rfl (fun w' hp => ⟨?_, hp.below⟩)
    rw [CheE, drw_no1 h16b]; rfl
  · have h16b := h16
    try simp only [sxb] at h16
    refine cj_skip (ej_th (cj_seq (cj_seq ?_)))
    refine cj_regionG (gj_step (y_fa0 fa25_0 rfl) rfl rfl rfl (gj_step (y_load1 Tryz.isAgg23 rfl rfl) rfl rfl rfl (gj_step (y_lenA Tryz.underlying23 rfl) rfl rfl rfl (gj_step (y_move rfl) rfl rfl rfl (gj_nil ?_)))))
    refine ej_th (cj_block ?_)
    refine cj_lpic (X := Nat) [(1, _), (18, _), (19, _)] (fun k => k ≤ cs.length ∧ okC cs k = true) (fun k => [(20, .int .i64 (k : Nat))]) (fun k => cs.length - k) 0 (⟨Nat.zero_le _, rfl⟩) ⟨rfl, rfl, rfl, rfl, trivial⟩ ?_
    rintro k ⟨hk, hsk⟩
    dsimp only [List.cons_append, List.nil_append]
    refine cj_seq ?_
    refine cj_regionG (gj_step (y_lss rfl rfl) rfl rfl rfl (gj_nil ?_))
    refine ej_th (cj_seq ?_)
    refine cj_cond rfl (fun h21 => ?_) (fun h21 => ?_)
    · have h21b := h21
      try simp only [sxb] at h21
      obtain ⟨x, hx⟩ : ∃ x, cs[k]? = some x := ⟨_, List.getElem?_eq_getElem (by omega)⟩
      refine cj_skip (ej_th (cj_seq (cj_block (cj_seq ?_))))
      refine cj_regionG (gj_step (y_move rfl) rfl rfl rfl (gj_step (y_ixR (reads_sl) Tryz.underlying23 Tryz.sizeOf3 rfl rfl (⟨by omega, by omega⟩)) rfl rfl rfl (gj_step (y_ld0 (reads_sl) Tryz.isAgg3 rfl (hx) rfl) rfl rfl rfl (gj_step (y_assign rfl) rfl rfl rfl (gj_step (y_assign rfl) rfl rfl rfl (gj_nil ?_))))))
      refine ej_th (cj_seq ?_)
      refine cj_regionG ?_
      refine gj_step (y_move rfl) rfl rfl rfl (?_)
      refine gj_step (y_call Tryz.call34 rfl (fun w hp => k_within _ _ _ w)) rfl rfl rfl ?_
      refine gj_step (y_not rfl) rfl rfl rfl (gj_step (y_move rfl) rfl rfl rfl (?_))
      refine gj_g 12 28 40 rfl rfl rfl rfl (fun hg28 => gj_yes rfl rfl rfl (y_move rfl) rfl rfl (gj_yes rfl rfl rfl (y_gtr rfl rfl) rfl rfl (gj_yes rfl rfl rfl (y_move rfl) rfl rfl (gj_g 8 31 39 rfl rfl rfl rfl (fun hg31 => gj_yes rfl rfl rfl (y_fa0 fa25_0 rfl) rfl rfl (gj_yes rfl rfl rfl (y_load1 Tryz.isAgg23 rfl rfl) rfl rfl (gj_yes rfl rfl rfl (y_move rfl) rfl rfl (gj_yes rfl rfl rfl (y_sub rfl rfl (by omega)) rfl rfl (gj_yes rfl rfl rfl (y_ixR (reads_sl) Tryz.underlying23 Tryz.sizeOf3 rfl rfl (⟨by have := of_decide_eq_true hg31; omega, by have := of_decide_eq_true hg31; omega⟩)) rfl rfl (gj_yes rfl rfl rfl (y_ld0 (reads_sl) Tryz.isAgg3 rfl (geq 0 (by have := of_decide_eq_true hg31; omega)) rfl) rfl rfl (gj_yes rfl rfl rfl (y_move rfl) rfl rfl (gj_yes rfl rfl rfl (y_leq rfl rfl) rfl rfl (gj_nil rfl))))))))) (gj_yes rfl rfl rfl (y_and rfl rfl rfl) rfl rfl (gj_nil rfl)))))) ?_
      refine gj_step (y_or rfl rfl rfl) rfl rfl rfl (?_)
      refine gj_nil ?_
      refine ej_th ?_
      refine cj_cond rfl (fun h41 => ?_) (fun h41 => ?_)
      · have h41b := h41
        try simp only [sxb] at h41
        refine cj_seq ?_
        refine cj_regionG (gj_step (y_assign rfl) rfl rfl rfl (gj_nil ?_))
        refine ej_th (cj_ret (ej_blk_ret (ej_then_ret (ej_then_ret (ej_blk_ret (ej_then_ret ?_))))))
        refine ej_ret1 rfl Tryz.results33 rfl (fun w' hp => ⟨?_, hp.below⟩)
        rw [CheE, drw_no2 (k := k + 1) (by rw [okC_step hx, h41b, Bool.not_true, Bool.and_false]) (by omega)]; rfl
      · have h41b := h41
        try simp only [sxb] at h41
        refine cj_skip (ej_blk (ej_th ?_))
        refine cj_regionG (gj_step (y_add rfl rfl (by omega)) rfl rfl rfl (gj_step (y_move rfl) rfl rfl rfl (gj_nil ?_)))
        exact ej_nx (k + 1) (by omega) ⟨by omega, by rw [okC_step hx, hsk, h41b]; rfl⟩ ⟨rfl, rfl, rfl, rfl, trivial⟩
    · have h21b := h21
      try simp only [sxb] at h21
      refine cj_exit (ej_then_exit (ej_then_exit (ej_blk_hit (ej_th (cj_seq ?_)))))
      refine cj_regionG (gj_step (y_assign rfl) rfl rfl rfl (gj_nil ?_))
      refine ej_th (cj_ret ?_)
      refine ej_ret1 rfl Tryz.results33 rfl (fun w' hp => ⟨?_, hp.below⟩)
      rw [show k = cs.length by omega] at hsk
      rw [CheE, drw_yes h16b hsk]; rfl

end Go.Proofs.YtppfniekcgnmjaaGreat.Ti
namespace Go.Proofs.YtppfniekcgnmjaaGreat.Ti
open Go.Sx Go.RowKit
set_option maxRecDepth 20000
theorem eq135 (a0 b0 : Int) (a1 b1 : Int) (x y : Operand) (w : World) : (do eqGuard .eql 135 x y (.agg #[.int .i64 a0, .int .i64 a1]) (.agg #[.int .i64 b0, .int .i64 b1]); binOp .eql 135 (.agg #[.int .i64 a0, .int .i64 a1]) (.agg #[.int .i64 b0, .int .i64 b1]) : Sem Value).run Tryz.prog w = .ok (.bool ((a0 == b0) && (a1 == b1))) w := by
  simp [go_sem, Tryz.eqGuardType135, Tryz.stoodInHeld135, Tryz.underlying135, Tryz.underlying3]
  try ((repeat' split) <;> simp_all)
theorem fa135_0 : FieldIs Tryz.prog 135 0 0 1 false := ⟨⟨_, _, Tryz.underlying135, rfl, rfl, Tryz.sizeOf3, Tryz.isAgg3, by decide⟩⟩
theorem fa135_1 : FieldIs Tryz.prog 135 1 1 1 false := ⟨⟨_, _, Tryz.underlying135, rfl, rfl, Tryz.sizeOf3, Tryz.isAgg3, by decide⟩⟩
theorem st135 : StructIs Tryz.prog 135 [(0, 1), (1, 1)] [.int .i64 0, .int .i64 0] := ⟨⟨_, Tryz.underlying135, fun w => by simp [Tryz.sizeOf3], Tryz.zeroValue135⟩⟩
end Go.Proofs.YtppfniekcgnmjaaGreat.Ti
namespace Go.Proofs.YtppfniekcgnmjaaGreat.Ti
open Go.Sx Go.RowKit Um
set_option maxRecDepth 20000
abbrev kdS : TypeDesc := .struct #[{ name := "kind", type := 3, offset := 0, embedded := false, tag := "", pkgPath := "lombard/till", byteOffset := 0 }, { name := "sum", type := 3, offset := 1, embedded := false, tag := "", pkgPath := "lombard/till", byteOffset := 8 }]
theorem bits2 (n : Nat) (x y : Int) : Instr.sameBits (n + 1) (.agg #[.int .i64 x, .int .i64 y]) (.agg #[.int .i64 x, .int .i64 y]) = true := by simp [Instr.sameBits]
theorem check2 (c : Bool) (n : Nat) (x y : Int) (w : World) : (Instr.checkKey c (n + 2) 135 (.agg #[.int .i64 x, .int .i64 y])).run Tryz.prog w = .ok () w := by
  simp [Instr.checkKey, go_sem, Tryz.underlying135, Tryz.underlying3, Tryz.sizeOf3]
theorem equal2 (n : Nat) (x y u v : Int) (w : World) : (Op.equalIn (n + 2) 135 (.agg #[.int .i64 x, .int .i64 y]) (.agg #[.int .i64 u, .int .i64 v])).run Tryz.prog w = .ok ((x == u) && (y == v)) w := by
  simp [Op.equalIn, go_sem, Tryz.stoodInHeld135, Tryz.underlying135, Tryz.underlying3, Tryz.sizeOf3]
  try ((repeat' split) <;> simp_all)
theorem kaS : KeyA Tryz.prog 135 kdS ekS2 where
  und := Tryz.underlying135
  now := fun _ _ => rfl
  eq := fun a b w => by
    have h : decide (b = a) = ((a.1 == b.1) && (a.2 == b.2)) := by
      rw [Bool.eq_iff_iff]; simp only [decide_eq_true_eq, Prod.ext_iff, Bool.and_eq_true, beq_iff_eq]; constructor <;> (rintro ⟨h1, h2⟩; exact ⟨h1.symm, h2.symm⟩)
    rw [h]
    exact equal2 9998 _ _ _ _ w
  bits := fun a => bits2 9999 _ _
  check := fun c w a => check2 c 9998 _ _ w

set_option maxHeartbeats 1000000 in
theorem k_few1 (cs hv : List Int) (Ac Ah : Option Addr) (cc ch : Nat) (fpc fph : Nat → Prop) (bc bk bh bf bm : Nat) (k : Nat) (s : Int) (w : World) (hD : DrwOk cs hv) (hk : k ≤ cs.length) (hs : 0 ≤ s ∧ s ≤ 2000) (hO : ∀ f ∈ [mpE ekS2 evI bm (knP cs hv)], f.P w ∧ ∀ b, f.fp b → b < w.heap.size) (hap : [mpE ekS2 evI bm (knP cs hv)].Pairwise (fun f g => ∀ b, f.fp b → ¬ g.fp b)) (hS : ∀ g ∈ [ownB bc (cellsB 23 [.slice Ac cs.length cc]), ownB bk (cellsB 132 [.map (some bm)]), ownB bh (cellsB 23 [.slice Ah hv.length ch]), ownB bf (cellsB 133 [.func (.func 66) #[] #[.pointer (some ⟨bc, 0, none⟩), .pointer (some ⟨bk, 0, none⟩), .pointer (some ⟨bh, 0, none⟩), .pointer (some ⟨bf, 0, none⟩)]]), sl fpc 1 enInt Ac cs, sl fph 1 enInt Ah hv], g.P w ∧ ∀ i, g.fp i → i < w.heap.size ∧ ∀ f ∈ [mpE ekS2 evI bm (knP cs hv)], ¬ f.fp i) (ih : k < cs.length → ∀ (s : Int) (w : World) (_ : 0 ≤ s ∧ s ≤ 2000) (_ : ∀ f ∈ [mpE ekS2 evI bm (knP cs hv)], f.P w ∧ ∀ b, f.fp b → b < w.heap.size) (_ : [mpE ekS2 evI bm (knP cs hv)].Pairwise (fun f g => ∀ b, f.fp b → ¬ g.fp b)) (_ : ∀ g ∈ [ownB bc (cellsB 23 [.slice Ac cs.length cc]), ownB bk (cellsB 132 [.map (some bm)]), ownB bh (cellsB 23 [.slice Ah hv.length ch]), ownB bf (cellsB 133 [.func (.func 66) #[] #[.pointer (some ⟨bc, 0, none⟩), .pointer (some ⟨bk, 0, none⟩), .pointer (some ⟨bh, 0, none⟩), .pointer (some ⟨bf, 0, none⟩)]]), sl fpc 1 enInt Ac cs, sl fph 1 enInt Ah hv], g.P w ∧ ∀ i, g.fp i → i < w.heap.size ∧ ∀ f ∈ [mpE ekS2 evI bm (knP cs hv)], ¬ f.fp i), Calls Tryz.prog 66 #[.agg #[.int .i64 ((k : Nat) + 1), .int .i64 s], .pointer (some ⟨bc, 0, none⟩), .pointer (some ⟨bk, 0, none⟩), .pointer (some ⟨bh, 0, none⟩), .pointer (some ⟨bf, 0, none⟩)] w (fun e w' => ∃ _ : Unit, e = .returned (.int .i64 (few (cs.drop (k + 1)) (hv.drop (k + 1)) s)) ∧ Giv [mpE ekS2 evI bm (knP cs hv)] w w' [mpE ekS2 evI bm (knP cs hv)])) : Calls Tryz.prog 66 #[.agg #[.int .i64 (k : Nat), .int .i64 s], .pointer (some ⟨bc, 0, none⟩), .pointer (some ⟨bk, 0, none⟩), .pointer (some ⟨bh, 0, none⟩), .pointer (some ⟨bf, 0, none⟩)] w (fun e w' => ∃ _ : Unit, e = .returned (.int .i64 (few (cs.drop k) (hv.drop k) s)) ∧ Giv [mpE ekS2 evI bm (knP cs hv)] w w' [mpE ekS2 evI bm (knP cs hv)]) := by
  have hl1 := hD.n
  have hl2 := hD.l
  refine enterO (args := [.agg #[.int .i64 (k : Nat), .int .i64 s], .pointer (some ⟨bc, 0, none⟩), .pointer (some ⟨bk, 0, none⟩), .pointer (some ⟨bh, 0, none⟩), .pointer (some ⟨bf, 0, none⟩)]) [mpE ekS2 evI bm (knP cs hv)] [ownB bc (cellsB 23 [.slice Ac cs.length cc]), ownB bk (cellsB 132 [.map (some bm)]), ownB bh (cellsB 23 [.slice Ah hv.length ch]), ownB bf (cellsB 133 [.func (.func 66) #[] #[.pointer (some ⟨bc, 0, none⟩), .pointer (some ⟨bk, 0, none⟩), .pointer (some ⟨bh, 0, none⟩), .pointer (some ⟨bf, 0, none⟩)]]), sl fpc 1 enInt Ac cs, sl fph 1 enInt Ah hv] Tryz.func66 rfl (by rw [Tryz.ntmps66]; simp) hO hap hS ?_
  refine cj_seq (cj_region ?_)
  refine oj_box rfl rfl rfl (fun b5 => ?_)
  refine oj_step (y_assign rfl) rfl rfl rfl ?_
  refine oj_nil ?_
  refine ej_th (cj_seq (cj_seq ?_))
  refine cj_regionG (gj_step (y_loadN Tryz.isAgg135 Tryz.sizeOf135 rfl) rfl rfl rfl (gj_step (y_loadS1 Tryz.isAgg23 rfl rfl) rfl rfl rfl (gj_step (y_lenA Tryz.underlying23 rfl) rfl rfl rfl (gj_step (y_build (cs := [.int .i64 (cs.length : Nat), .int .i64 0]) st135 rfl (by kernel_rfl)) rfl rfl rfl (gj_step (y_bin rfl rfl (fun x y w => eq135 _ _ _ _ x y w)) rfl rfl rfl (gj_nil ?_))))))
  refine ej_th ?_
  refine cj_cond rfl (fun h15 => ?_) (fun h15 => ?_)
  · have h15b := h15
    try simp only [sxb] at h15
    refine cj_seq ?_
    refine cj_regionG (gj_step (y_assign rfl) rfl rfl rfl (gj_nil ?_))
    refine ej_th (cj_ret (ej_then_ret ?_))
    refine ej_ret1 rfl Tryz.results66 rfl (fun w' hp => ⟨(), ?_, hp.givT _⟩)
    simp only [Bool.and_eq_true, beq_iff_eq] at h15b
    rw [few_end (by omega), if_pos h15b.2]
  · have h15b := h15
    try simp only [sxb] at h15
    refine cj_skip (ej_th (cj_seq (cj_seq ?_)))
    refine cj_regionG (gj_step (y_fa0 fa135_0 rfl) rfl rfl rfl (gj_step (y_load1 Tryz.isAgg3 rfl rfl) rfl rfl rfl (gj_step (y_loadS1 Tryz.isAgg23 rfl rfl) rfl rfl rfl (gj_step (y_lenA Tryz.underlying23 rfl) rfl rfl rfl (gj_step (y_eql rfl rfl) rfl rfl rfl (gj_nil ?_))))))
    refine ej_th ?_
    refine cj_cond rfl (fun h20 => ?_) (fun h20 => ?_)
    · have h20b := h20
      try simp only [sxb] at h20
      refine cj_seq ?_
      refine cj_regionG (gj_step (y_assign rfl) rfl rfl rfl (gj_nil ?_))
      refine ej_th (cj_ret (ej_then_ret ?_))
      refine ej_ret1 rfl Tryz.results66 rfl (fun w' hp => ⟨(), ?_, hp.givT _⟩)
      have hs0 : ¬ s = 0 := fun e => by
        subst e
        simp at h15b
        omega
      rw [few_end (by omega), if_neg hs0]
    · have h20b := h20
      try simp only [sxb] at h20
      have hkl : k < cs.length := by omega
      obtain ⟨c, hcx⟩ : ∃ c, cs[k]? = some c := ⟨_, List.getElem?_eq_getElem (by omega)⟩
      obtain ⟨h, hhx⟩ : ∃ h, hv[k]? = some h := ⟨_, List.getElem?_eq_getElem (by omega)⟩
      have hcb := hD.c c (List.mem_of_getElem? hcx)
      have hhb := hD.h h (List.mem_of_getElem? hhx)
      have hmm := most_eq (c := c) (h := h) (s := s) hhb.1 hcb.1 hs.1
      have hmb := most_bd (c := c) (h := h) (s := s) hcb.1 hhb.1 hs.1
      have hq0 := Int.ediv_nonneg hs.1 (show 0 ≤ c by omega)
      refine cj_skip (ej_th (cj_seq (cj_seq ?_)))
      refine cj_mpO (ek := ekS2) (ev := evI) (b := bm) (knP cs hv) (fun l hl => ?_)
      refine cj_regionG (gj_step (y_loadS1 Tryz.isAgg132 rfl rfl) rfl rfl rfl (gj_step (y_loadN Tryz.isAgg135 Tryz.sizeOf135 rfl) rfl rfl rfl (gj_step (y_lookupA (ek := ekS2) (ev := evI) (kk := ((k : Nat), s)) 0 kaS Tryz.underlying132 Tryz.zeroValue3 rfl rfl) rfl rfl rfl (gj_step (y_move rfl) rfl rfl rfl (gj_step (y_extract rfl rfl) rfl rfl rfl (gj_step (y_extract rfl rfl) rfl rfl rfl (gj_step (y_assign rfl) rfl rfl rfl (gj_step (y_assign rfl) rfl rfl rfl (gj_nil ?_)))))))))
      refine ej_th (cj_seq ?_)
      refine cj_regionG (gj_step (y_move rfl) rfl rfl rfl (gj_nil ?_))
      refine ej_th ?_
      refine cj_cond rfl (fun h27 => ?_) (fun h27 => ?_)
      · have h27b := h27
        try simp only [sxb] at h27
        refine cj_mpC (ek := ekS2) (ev := evI) (b := bm) (knP cs hv) hl ?_
        refine cj_seq ?_
        refine cj_regionG (gj_step (y_move rfl) rfl rfl rfl (gj_step (y_assign rfl) rfl rfl rfl (gj_nil ?_)))
        refine ej_th (cj_ret (ej_then_ret ?_))
        refine ej_ret1 rfl Tryz.results66 rfl (fun w' hp => ⟨(), ?_, hp.givT _⟩)
        obtain ⟨v, hv2⟩ := Option.isSome_iff_exists.1 h27b
        rw [hv2, hl _ _ hv2]; rfl
      · have h27b := h27
        try simp only [sxb] at h27
        refine cj_mpC (ek := ekS2) (ev := evI) (b := bm) (knP cs hv) hl ?_
        refine cj_skip (ej_th (cj_seq ?_))
        refine cj_regionG (gj_step (y_assign rfl) rfl rfl rfl (gj_nil ?_))
        refine ej_th (cj_seq (cj_seq ?_))
        refine cj_draw (by kernel_rfl) (by kernel_rfl) (gj_step (y_loadS1 Tryz.isAgg23 rfl rfl) rfl rfl rfl (gj_step (y_fa0 fa135_0 rfl) rfl rfl rfl (gj_step (y_load1 Tryz.isAgg3 rfl rfl) rfl rfl rfl (gj_step (y_ixR (reads_sl) Tryz.underlying23 Tryz.sizeOf3 rfl rfl (⟨by omega, by omega⟩)) rfl rfl rfl (gj_step (y_ld0 (reads_sl) Tryz.isAgg3 rfl (hhx) rfl) rfl rfl rfl (gj_step (y_fa fa135_1 rfl) rfl rfl rfl (gj_step (y_load1 Tryz.isAgg3 rfl rfl) rfl rfl rfl (gj_step (y_loadS1 Tryz.isAgg23 rfl rfl) rfl rfl rfl (gj_step (y_fa0 fa135_0 rfl) rfl rfl rfl (gj_step (y_load1 Tryz.isAgg3 rfl rfl) rfl rfl rfl (gj_step (y_ixR (reads_sl) Tryz.underlying23 Tryz.sizeOf3 rfl rfl (⟨by omega, by omega⟩)) rfl rfl rfl (gj_step (y_ld0 (reads_sl) Tryz.isAgg3 rfl (hcx) rfl) rfl rfl rfl (gj_step (y_quo rfl rfl (⟨by omega, by omega, by omega⟩)) rfl rfl rfl (gj_step (y_min rfl rfl) rfl rfl rfl (gj_step (y_add rfl rfl (by omega)) rfl rfl rfl (gj_step (y_move rfl) rfl rfl rfl (gj_nil ?_)))))))))))))))))
        refine ej_th (cj_block ?_)
        refine cj_lpic (X := Nat) [(1, _), (2, _), (4, _), (5, _), (6, _), (43, _)] (fun n => n ≤ mostN c h s + 1) (fun n => [(44, .int .i64 (n : Nat)), (9, .int .i64 (fewB (few (cs.drop (k + 1)) (hv.drop (k + 1))) c s n))]) (fun n => mostN c h s + 1 - n) 0 (Nat.zero_le _) ⟨rfl, rfl, rfl, rfl, rfl, rfl, rfl, rfl, trivial⟩ ?_
        rintro n hn
        dsimp only [List.cons_append, List.nil_append]
        refine cj_seq ?_
        refine cj_regionG (gj_step (y_lss rfl rfl) rfl rfl rfl (gj_nil ?_))
        refine ej_th (cj_seq ?_)
        refine cj_cond rfl (fun h45 => ?_) (fun h45 => ?_)
        · have h45b := h45
          try simp only [sxb] at h45
          have hnm : n ≤ mostN c h s := by omega
          have hnc : (n : Int) * c ≤ (mostN c h s : Int) * c := Int.mul_le_mul_of_nonneg_right (by omega) (by omega)
          have hn0 : 0 ≤ (n : Int) * c := Int.mul_nonneg (by omega) (by omega)
          have hf0 := few_nn (cs.drop (k + 1)) (hv.drop (k + 1)) (s - (n : Nat) * c)
          have hf1 := few_le (cs.drop (k + 1)) (hv.drop (k + 1)) (s - (n : Nat) * c)
          refine cj_skip (ej_th (cj_seq (cj_block (cj_seq ?_))))
          refine cj_regionG (gj_step (y_move rfl) rfl rfl rfl (gj_step (y_assign rfl) rfl rfl rfl (gj_nil ?_)))
          refine ej_th ?_
          refine cj_plan 21 (by kernel_rfl) (by kernel_rfl) ?_
          refine pl_y 0 rfl (y_move rfl) rfl rfl rfl rfl (by kernel_rfl) ?_
          refine pl_y 1 rfl (y_move rfl) rfl rfl rfl rfl (by kernel_rfl) ?_
          refine pl_y 2 rfl (y_loadS1 Tryz.isAgg133 rfl rfl) rfl rfl rfl rfl (by kernel_rfl) ?_
          refine pl_y 3 rfl (y_fa0 fa135_0 rfl) rfl rfl rfl rfl (by kernel_rfl) ?_
          refine pl_y 4 rfl (y_load1 Tryz.isAgg3 rfl rfl) rfl rfl rfl rfl (by kernel_rfl) ?_
          refine pl_y 5 rfl (y_add rfl rfl (by omega)) rfl rfl rfl rfl (by kernel_rfl) ?_
          refine pl_y 6 rfl (y_fa fa135_1 rfl) rfl rfl rfl rfl (by kernel_rfl) ?_
          refine pl_y 7 rfl (y_load1 Tryz.isAgg3 rfl rfl) rfl rfl rfl rfl (by kernel_rfl) ?_
          refine pl_y 8 rfl (y_move rfl) rfl rfl rfl rfl (by kernel_rfl) ?_
          refine pl_y 9 rfl (y_loadS1 Tryz.isAgg23 rfl rfl) rfl rfl rfl rfl (by kernel_rfl) ?_
          refine pl_y 10 rfl (y_fa0 fa135_0 rfl) rfl rfl rfl rfl (by kernel_rfl) ?_
          refine pl_y 11 rfl (y_load1 Tryz.isAgg3 rfl rfl) rfl rfl rfl rfl (by kernel_rfl) ?_
          refine pl_y 12 rfl (y_ixR (reads_sl) Tryz.underlying23 Tryz.sizeOf3 rfl rfl (⟨by omega, by omega⟩)) rfl rfl rfl rfl (by kernel_rfl) ?_
          refine pl_y 13 rfl (y_ld0 (reads_sl) Tryz.isAgg3 rfl (hcx) rfl) rfl rfl rfl rfl (by kernel_rfl) ?_
          refine pl_y 14 rfl (y_mul rfl rfl (by omega)) rfl rfl rfl rfl (by kernel_rfl) ?_
          refine pl_y 15 rfl (y_sub rfl rfl (by omega)) rfl rfl rfl rfl (by kernel_rfl) ?_
          refine pl_y 16 rfl (y_build (cs := [.int .i64 ((k : Nat) + 1), .int .i64 (s - (n : Nat) * c)]) st135 rfl (by kernel_rfl)) rfl rfl rfl rfl (by kernel_rfl) ?_
          refine pl_w1 17 (by kernel_rfl) rfl rfl (pl_fire rfl rfl rfl (by kernel_rfl) ?_)
          refine oj_callL (X := Unit) (fun _ => .int .i64 (few (cs.drop (k + 1)) (hv.drop (k + 1)) (s - (n : Nat) * c))) [mpE ekS2 evI bm (knP cs hv)] (fun _ => [mpE ekS2 evI bm (knP cs hv)]) Tryz.call66 rfl rfl (fun w1 hp => by
            obtain ⟨q1, q2, q3⟩ := hp.ownL (Os := [mpE ekS2 evI bm (knP cs hv)]) inferInstance
            exact ih hkl (s - (n : Nat) * c) w1 ⟨by omega, by omega⟩ q1 q2 q3) rfl (fun _ => ?_)
          dsimp only [List.cons_append, List.nil_append]
          refine oj_nil ?_
          refine ej_pl (lt_w (by kernel_rfl) (lt_y (y_sub rfl rfl (by omega)) rfl (lt_y (y_mul rfl rfl (by omega)) rfl (lt_y (y_ld0 (reads_sl) Tryz.isAgg3 rfl (hcx) rfl) rfl (lt_y (y_ixR (reads_sl) Tryz.underlying23 Tryz.sizeOf3 rfl rfl (⟨by omega, by omega⟩)) rfl (lt_y (y_load1 Tryz.isAgg3 rfl rfl) rfl (lt_y (y_fa0 fa135_0 rfl) rfl (lt_y (y_loadS1 Tryz.isAgg23 rfl rfl) rfl (lt_y (y_move rfl) rfl (lt_y (y_load1 Tryz.isAgg3 rfl rfl) rfl (lt_y (y_fa fa135_1 rfl) rfl (lt_y (y_add rfl rfl (by omega)) rfl (lt_y (y_load1 Tryz.isAgg3 rfl rfl) rfl (lt_y (y_fa0 fa135_0 rfl) rfl (lt_w (by kernel_rfl) (lt_y (y_move rfl) rfl (lt_y (y_move rfl) rfl (lt_nil)))))))))))))))))) ?_
          refine pl_y 18 rfl (y_add rfl rfl (by omega)) rfl rfl rfl rfl (by kernel_rfl) ?_
          refine pl_y 19 rfl (y_min rfl rfl) rfl rfl rfl rfl (by kernel_rfl) ?_
          refine pl_y 20 rfl (y_assign rfl) rfl rfl rfl rfl (by kernel_rfl) ?_
          refine pl_end (by kernel_rfl) ?_
          refine ej_blk (ej_th ?_)
          refine cj_regionG (gj_step (y_add rfl rfl (by omega)) rfl rfl rfl (gj_step (y_move rfl) rfl rfl rfl (gj_nil ?_)))
          exact ej_nx (n + 1) (by omega) (by omega) ⟨rfl, rfl, rfl, rfl, rfl, rfl, rfl, rfl, trivial⟩
        · have h45b := h45
          try simp only [sxb] at h45
          have hn : n = mostN c h s + 1 := by omega
          subst hn
          have hfin : fewB (few (cs.drop (k + 1)) (hv.drop (k + 1))) c s (mostN c h s + 1) = fewK cs hv ((k : Nat), s) := (few_at s hcx hhx).symm
          refine cj_exit (ej_then_exit (ej_then_exit (ej_blk_hit (ej_th (cj_seq ?_)))))
          refine cj_mpO (ek := ekS2) (ev := evI) (b := bm) (knP cs hv) (fun l2 hl2 => ?_)
          refine cj_region ?_
          refine oj_step (y_loadS1 Tryz.isAgg132 rfl rfl) rfl rfl rfl ?_
          refine oj_step (y_loadN Tryz.isAgg135 Tryz.sizeOf135 rfl) rfl rfl rfl ?_
          refine oj_step (y_move rfl) rfl rfl rfl ?_
          refine oj_mapUpdateA (ek := ekS2) (ev := evI) (kk := ((k : Nat), s)) (v := fewB (few (cs.drop (k + 1)) (hv.drop (k + 1))) c s (mostN c h s + 1)) kaS Tryz.underlying132 rfl rfl rfl ?_
          refine oj_nil ?_
          refine ej_th (cj_seq ?_)
          refine cj_mpC (ek := ekS2) (ev := evI) (b := bm) (knP cs hv) (knP_put hl2 hfin) ?_
          refine cj_regionG (gj_step (y_move rfl) rfl rfl rfl (gj_step (y_assign rfl) rfl rfl rfl (gj_nil ?_)))
          refine ej_th (cj_ret ?_)
          refine ej_ret1 rfl Tryz.results66 rfl (fun w' hp => ⟨(), ?_, hp.givT _⟩)
          rw [hfin]; rfl

end Go.Proofs.YtppfniekcgnmjaaGreat.Ti
namespace Go.Proofs.YtppfniekcgnmjaaGreat.Ti
open Go.Sx Go.RowKit
set_option maxRecDepth 20000
theorem el23 : ElemIs Tryz.prog 23 3 1 8 := ⟨⟨_, (.int .i64 0), Tryz.underlying23, Tryz.type3, by kernel_rfl, by kernel_rfl, by kernel_rfl, by kernel_rfl, by decide⟩⟩
end Go.Proofs.YtppfniekcgnmjaaGreat.Ti
