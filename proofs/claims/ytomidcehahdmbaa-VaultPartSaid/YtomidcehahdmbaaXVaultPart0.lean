/- Texts of ours, joined: 5 of them. Conditions: none. -/
import Derived.Test.YtomidcehahdmbaaZh
import Derived.Test.YtomidcehahdmbaaProg
import Derived.Laws.StructEq
namespace Go.Proofs.Ytomidcehahdmbaa
open Go.Sx Go.RowKit
set_option maxRecDepth 20000

end Go.Proofs.Ytomidcehahdmbaa
namespace Go.Proofs.Ytomidcehahdmbaa
open Go.Sx Go.RowKit Vm
set_option maxRecDepth 20000
theorem k_Ring (n m : Int) (w : World) (hm : m ≤ 4611686018427387904) : Calls Try.prog 33 #[.int .i64 n, .int .i64 m] w (fun e w' => e = .returned (.int .i64 (ringI n m)) ∧ Grow w w') := by
  refine enter_pure (args := [.int .i64 n, .int .i64 m]) [] Try.func33 rfl (by rw [Try.ntmps33]; simp) (by simp) ?_
  refine cj_seq ?_
  refine cj_regionG (gj_step (y_assign rfl) rfl rfl rfl (gj_nil ?_))
  refine ej_th (cj_seq (cj_seq ?_))
  refine cj_regionG (gj_step (y_move rfl) rfl rfl rfl (gj_step (y_leq rfl rfl) rfl rfl rfl (gj_nil ?_)))
  refine ej_th ?_
  refine cj_cond rfl (fun h6 => ?_) (fun h6 => ?_)
  · have h6b := h6
    try simp only [sxb] at h6
    refine cj_seq ?_
    refine cj_regionG (gj_step (y_assign rfl) rfl rfl rfl (gj_nil ?_))
    refine ej_th (cj_ret (ej_then_ret ?_))
    refine ej_ret1 rfl Try.results33 rfl (fun w' hp => ⟨?_, hp.below⟩)
    rw [ringI, if_pos h6]
  · have h6b := h6
    try simp only [sxb] at h6
    refine cj_skip (ej_th (cj_seq ?_))
    refine cj_regionG (gj_step (y_move rfl) rfl rfl rfl (gj_step (y_move rfl) rfl rfl rfl (gj_step (y_remw rfl rfl (by omega)) rfl rfl rfl (gj_step (y_move rfl) rfl rfl rfl (gj_step (y_add rfl rfl (by have h1 := Int.tmod_lt_of_pos n (show 0 < m by omega); have h2 := Int.lt_tmod_of_pos n (show 0 < m by omega); omega)) rfl rfl rfl (gj_step (y_move rfl) rfl rfl rfl (gj_step (y_remw rfl rfl (by omega)) rfl rfl rfl (gj_step (y_assign rfl) rfl rfl rfl (gj_nil ?_)))))))))
    refine ej_th (cj_ret ?_)
    refine ej_ret1 rfl Try.results33 rfl (fun w' hp => ⟨?_, hp.below⟩)
    rw [ringI, if_neg (by omega)]

end Go.Proofs.Ytomidcehahdmbaa
namespace Vm
open Go.Proofs.Ytomidcehahdmbaa
theorem play_of {s : Str} {l : List CarryV} (hs : strB s = true) (hl : logB s l = true) : playE s l = (run s log0 l).2.2 ∧ playAt s l = (run s log0 l).2.1 := by
  unfold playE playAt
  rw [if_pos hs, if_pos hl, if_pos hs, if_pos hl]
  exact ⟨rfl, rfl⟩
theorem play_run {s : Str} {l : List CarryV} (h : playE s l = 0) : (run s log0 l).2.2 = 0 ∧ playB s l = (run s log0 l).1.bags ∧ playAt s l = l.length := by
  obtain ⟨hs, hl, _⟩ := play_0 h
  obtain ⟨h1, h2⟩ := play_of hs hl
  rw [h] at h1
  refine ⟨h1.symm, by unfold playB; rw [if_pos h], ?_⟩
  rw [h2, run_at s l log0 h1.symm]
theorem play_take {s : Str} {l : List CarryV} (h : playE s l = 0) {k : Nat} (hk : k ≤ l.length) : playE s (l.take k) = 0 ∧ playAt s (l.take k) = k := by
  obtain ⟨hs, hl, _⟩ := play_0 h
  have h1 := (play_run h).1
  have h2 := run_take s l log0 k h1
  obtain ⟨h3, _⟩ := play_of hs (logB_take hl k)
  have h4 : playE s (l.take k) = 0 := h3.trans h2
  refine ⟨h4, ?_⟩
  rw [(play_run h4).2.2, List.length_take, Nat.min_eq_left hk]
theorem run_step {s : Str} {st : LogV} {l : List CarryV} {k : Nat} {c : CarryV} (h : (run s st l).2.2 = 0) (hc : l[k]? = some c) : stepE s (run s st (l.take k)).1 c = 0 ∧ (run s st (l.take (k + 1))).1 = stepN (run s st (l.take k)).1 c := by
  have h1 := run_take s l st k h
  have h2 := run_take s l st (k + 1) h
  rw [List.take_add_one, hc, Option.toList_some] at h2 ⊢
  rw [run_snoc s _ _ _ h1] at h2 ⊢
  by_cases e : stepE s (run s st (l.take k)).1 c = 0
  · rw [if_pos e]
    exact ⟨e, rfl⟩
  · rw [if_neg e] at h2
    exact absurd h2 e
theorem play_next {s : Str} {l : List CarryV} {k : Nat} {c : CarryV} (h : playE s l = 0) (hc : l[k]? = some c) : playB s (l.take (k + 1)) = (playB s (l.take k)).set c.bag.toNat (newBag ((playB s (l.take k)).getD c.bag.toNat bag0) c) := by
  have hk : k < l.length := (List.getElem?_eq_some_iff.1 hc).1
  have h1 := (play_take h (k := k) (by omega)).1
  have h2 := (play_take h (k := k + 1) (by omega)).1
  rw [(play_run h1).2.1, (play_run h2).2.1, (run_step (play_run h).1 hc).2]
  rfl
theorem set_back {l : List BagV} {n : Nat} (u : BagV) (hn : n < l.length) : (l.set n u).set n (l.getD n bag0) = l := by
  rw [List.set_set, List.getD_eq_getElem?_getD, List.getElem?_eq_getElem hn, Option.getD_some, List.set_getElem_self]
theorem part_law {s : Str} {l : List CarryV} {k : Nat} {c : CarryV} (h : playE s l = 0) (hc : l[k]? = some c) (hb : 0 ≤ c.bag ∧ c.bag ≤ 31) : (playB s (l.take (k + 1))).set c.bag.toNat ((playB s (l.take k)).getD c.bag.toNat bag0) = playB s (l.take k) := by
  rw [play_next h hc]
  exact set_back _ (by rw [playB_len]; omega)
end Vm
namespace Go.Proofs.Ytomidcehahdmbaa
open Go Go.Sx Go.RowKit Vm
theorem tk_at {l : List BagV} (h : l.length = 32) {n : Int} (hn : 0 ≤ n ∧ n ≤ 31) : Tk 5 (0 + n.toNat * 5) (l.flatMap encBa) (encBa (l.getD n.toNat bag0)) := by
  rw [Nat.zero_add]
  exact tk_bag (bf_at h hn)
theorem set_at {l : List BagV} (h : l.length = 32) {n : Int} (hn : 0 ≤ n ∧ n ≤ 31) (u : BagV) : SetC (0 + n.toNat * 5) (encBa u) (l.flatMap encBa) ((l.set n.toNat u).flatMap encBa) := by
  have hb := bf_at h hn
  rw [flat_split encBa _ _ _ hb, flat_set encBa _ _ _ u hb]
  refine setC_mid _ (encBa (l.getD n.toNat bag0)) (encBa u) _ rfl ?_
  rw [flatMap_len encBa 5 enBa_len, List.length_take, h]
  omega
theorem encCa_one (x : CarryV) : ∀ v ∈ encCa x, v.oneCell' = true := by
  intro v hv
  simp only [encCa, List.mem_cons, List.mem_nil_iff, or_false] at hv
  rcases hv with rfl | rfl | rfl | rfl | rfl | rfl | rfl | rfl <;> rfl
end Go.Proofs.Ytomidcehahdmbaa
namespace Go.Proofs.Ytomidcehahdmbaa
open Go.Sx Go.RowKit
set_option maxRecDepth 20000

end Go.Proofs.Ytomidcehahdmbaa
namespace Go.Proofs.Ytomidcehahdmbaa
open Go.Sx Go.RowKit Vm
set_option maxRecDepth 20000
set_option maxHeartbeats 3200000 in
theorem k_VaultPart (s : StrV) (l : List CarryV) (A : Option Addr) (cc : Nat) (n : Int) (w : World) (hs : StrRd w s) (hl : Rd w 8 encCa A l) (hcap : l.length ≤ cc) : Calls Try.prog 9 #[.agg #[.slice s.Ar s.rooms.length s.cr, .slice s.Ag s.gates.length s.cg, .slice s.As s.staff.length s.cs], .slice A l.length cc, .int .i64 n] w (fun e w' => e = .returned (.bool true) ∧ Grow w w') := by
  have hll := hl.len
  have hpl0 := playB_len (s := s.s) l
  refine enter_pure (args := [.agg #[.slice s.Ar s.rooms.length s.cr, .slice s.Ag s.gates.length s.cg, .slice s.As s.staff.length s.cs], .slice A l.length cc, .int .i64 n]) [sl (fun b => b < w.heap.size) 3 encRo s.Ar s.rooms, sl (fun b => b < w.heap.size) 4 encGa s.Ag s.gates, sl (fun b => b < w.heap.size) 1 enInt s.As s.staff, sl (fun b => b < w.heap.size) 8 encCa A l] Try.func9 rfl (by rw [Try.ntmps9]; simp) (fun g hg => by simp at hg; rcases hg with rfl | rfl | rfl | rfl; exact ⟨hs.rooms, fun _ h => h⟩; exact ⟨hs.gates, fun _ h => h⟩; exact ⟨hs.staff, fun _ h => h⟩; exact ⟨hl, fun _ h => h⟩) ?_
  refine cj_seq (cj_region ?_)
  refine oj_box rfl rfl rfl (fun b3 => ?_)
  refine oj_step (y_assign rfl) rfl rfl rfl ?_
  refine oj_nil ?_
  refine ej_th (cj_seq (cj_seq (cj_region ?_)))
  refine oj_step (y_loadN Try.isAgg26 Try.sizeOf26 rfl) rfl rfl rfl ?_
  refine oj_step (y_move rfl) rfl rfl rfl ?_
  refine oj_step (y_call Try.call30 rfl (fun w hp => k_Play s l A cc w (hs.mono hp.below) hp.rd)) rfl rfl rfl ?_
  refine oj_step (y_move rfl) rfl rfl rfl ?_
  refine oj_step (y_extract rfl rfl) rfl rfl rfl ?_
  refine oj_step (y_extract rfl rfl) rfl rfl rfl ?_
  refine oj_step (y_extract rfl rfl) rfl rfl rfl ?_
  refine oj_alloc Try.zeroValue48 rfl rfl (fun b7 => ?_)
  refine oj_store (vs := ((playB s.s l).flatMap encBa)) (n := 160) (hset := set_all _ _ (by rw [bf_len hpl0]; rfl)) rfl rfl rfl (bf_one _) Try.sizeOf48 (bf_len hpl0) ?_
  refine oj_step (y_assign rfl) rfl rfl rfl ?_
  refine oj_step (y_assign rfl) rfl rfl rfl ?_
  refine oj_nil ?_
  refine ej_th (cj_seq ?_)
  refine cj_regionG (gj_step (y_move rfl) rfl rfl rfl (gj_step (y_neq rfl rfl) rfl rfl rfl (gj_nil ?_)))
  refine ej_th ?_
  refine cj_cond rfl (fun h25 => ?_) (fun h25 => ?_)
  · have h25b := h25
    try simp only [sxb] at h25
    refine cj_seq ?_
    refine cj_regionG ?_
    refine gj_step (y_call Try.call19 rfl (fun w hp => k_works w)) rfl rfl rfl ?_
    refine gj_step (y_assign rfl) rfl rfl rfl (?_)
    refine gj_nil ?_
    refine ej_th (cj_ret (ej_then_ret ?_))
    exact ej_ret1 rfl Try.results9 rfl (fun w' hp => ⟨by simp, hp.below⟩)
  · have h25b := h25
    try simp only [sxb] at h25
    have h0 : playE s.s l = 0 := by simpa using h25
    obtain ⟨hb, hlb, hl64⟩ := play_0 h0
    have hrb := ringI_bd n ((l.length : Int) + 1) (by omega)
    refine cj_skip (ej_th (cj_seq ?_))
    refine cj_regionG ?_
    refine gj_step (y_move rfl) rfl rfl rfl (gj_step (y_move rfl) rfl rfl rfl (gj_step (y_lenA Try.underlying45 rfl) rfl rfl rfl (gj_step (y_add rfl rfl (by omega)) rfl rfl rfl (?_))))
    refine gj_step (y_call Try.call33 rfl (fun w hp => k_Ring n ((l.length : Int) + 1) w (by omega))) rfl rfl rfl ?_
    refine gj_step (y_assign rfl) rfl rfl rfl (?_)
    refine gj_nil ?_
    refine ej_th (cj_seq ?_)
    obtain ⟨k, hk⟩ : ∃ k : Nat, ringI n ((l.length : Int) + 1) = (k : Nat) := ⟨_, (Int.toNat_of_nonneg hrb.1).symm⟩
    rw [hk] at hrb ⊢
    obtain ⟨hE1, hA1⟩ := play_take h0 (k := k) (by omega)
    have hpl := playB_len (s := s.s) (l.take k)
    refine cj_plan 13 (by kernel_rfl) (by kernel_rfl) ?_
    refine pl_y 0 rfl (y_loadN Try.isAgg26 Try.sizeOf26 rfl) rfl rfl rfl rfl (by kernel_rfl) ?_
    refine pl_y 1 rfl (y_move rfl) rfl rfl rfl rfl (by kernel_rfl) ?_
    refine pl_y 2 rfl (y_move rfl) rfl rfl rfl rfl (by kernel_rfl) ?_
    refine pl_y 3 rfl (y_sliceTo (xs := l) k Try.underlying45 Try.sizeOf52 rfl rfl (by omega) hcap) rfl rfl rfl rfl (by kernel_rfl) ?_
    refine pl_y 4 rfl (y_call Try.call30 rfl (fun w hp => k_Play s (l.take k) A cc w (hs.mono hp.below) (sl_take (hl.mono hp.below) _))) rfl rfl rfl rfl (by kernel_rfl) ?_
    refine pl_y 5 rfl (y_move rfl) rfl rfl rfl rfl (by kernel_rfl) ?_
    refine pl_y 6 rfl (y_extract rfl rfl) rfl rfl rfl rfl (by kernel_rfl) ?_
    refine pl_y 7 rfl (y_extract rfl rfl) rfl rfl rfl rfl (by kernel_rfl) ?_
    refine pl_y 8 rfl (y_extract rfl rfl) rfl rfl rfl rfl (by kernel_rfl) ?_
    refine pl_w1 9 (by kernel_rfl) rfl rfl (pl_fire rfl rfl rfl (by kernel_rfl) ?_)
    refine oj_alloc Try.zeroValue48 rfl rfl (fun b11 => ?_)
    refine oj_nil ?_
    refine ej_pl (lt_y (y_extract rfl rfl) rfl (lt_y (y_extract rfl rfl) rfl (lt_y (y_extract rfl rfl) rfl (lt_y (y_move rfl) rfl (lt_y (y_call Try.call30 rfl (fun w hp => k_Play s (l.take k) A cc w (hs.mono hp.below) (sl_take (hl.mono hp.below) _))) rfl (lt_y (y_sliceTo (xs := l) k Try.underlying45 Try.sizeOf52 rfl rfl (by omega) hcap) rfl (lt_y (y_move rfl) rfl (lt_y (y_move rfl) rfl (lt_y (y_loadN Try.isAgg26 Try.sizeOf26 rfl) rfl (lt_nil)))))))))) ?_
    refine pl_w1 10 (by kernel_rfl) rfl rfl (pl_fire rfl rfl rfl (by kernel_rfl) ?_)
    refine oj_store (vs := ((playB s.s (l.take k)).flatMap encBa)) (n := 160) (hset := set_all _ _ (by rw [bf_len hpl]; rfl)) rfl rfl rfl (bf_one _) Try.sizeOf48 (bf_len hpl) ?_
    refine oj_nil ?_
    refine ej_pl (lt_y (y_extract rfl rfl) rfl (lt_y (y_extract rfl rfl) rfl (lt_w (by kernel_rfl) (lt_w (by kernel_rfl) (lt_w (by kernel_rfl) (lt_w (by kernel_rfl) (lt_w (by kernel_rfl) (lt_w (by kernel_rfl) (lt_w (by kernel_rfl) (lt_nil)))))))))) ?_
    refine pl_y 11 rfl (y_assign rfl) rfl rfl rfl rfl (by kernel_rfl) ?_
    refine pl_y 12 rfl (y_assign rfl) rfl rfl rfl rfl (by kernel_rfl) ?_
    refine pl_end (by kernel_rfl) ?_
    refine ej_th (cj_seq (cj_seq ?_))
    rw [hE1, hA1]
    refine cj_regionG (gj_step (y_move rfl) rfl rfl rfl (gj_step (y_neq rfl rfl) rfl rfl rfl (gj_step (y_move rfl) rfl rfl rfl (gj_g 3 43 46 rfl rfl rfl rfl (fun hg43 => gj_yes rfl rfl rfl (y_move rfl) rfl rfl (gj_yes rfl rfl rfl (y_move rfl) rfl rfl (gj_yes rfl rfl rfl (y_neq rfl rfl) rfl rfl (gj_nil rfl)))) (gj_step (y_or rfl rfl rfl) rfl rfl rfl (gj_nil ?_))))))
    refine ej_th ?_
    refine cj_cond rfl (fun h47 => ?_) (fun h47 => ?_)
    · simp at h47
    · have h47b := h47
      try simp only [sxb] at h47
      refine cj_skip (ej_th (cj_seq (cj_seq ?_)))
      refine cj_regionG (gj_step (y_move rfl) rfl rfl rfl (gj_step (y_move rfl) rfl rfl rfl (gj_step (y_lenA Try.underlying45 rfl) rfl rfl rfl (gj_step (y_eql rfl rfl) rfl rfl rfl (gj_nil ?_)))))
      refine ej_th ?_
      refine cj_cond rfl (fun h51 => ?_) (fun h51 => ?_)
      · have h51b := h51
        try simp only [sxb] at h51
        refine cj_seq ?_
        refine cj_regionG ?_
        refine gj_step (y_call Try.call19 rfl (fun w hp => k_works w)) rfl rfl rfl ?_
        refine gj_step (y_assign rfl) rfl rfl rfl (?_)
        refine gj_nil ?_
        refine ej_th (cj_ret (ej_then_ret ?_))
        exact ej_ret1 rfl Try.results9 rfl (fun w' hp => ⟨by simp, hp.below⟩)
      · have h51b := h51
        try simp only [sxb] at h51
        have hkl : k < l.length := by
          have h9 : ¬ (k : Int) = l.length := by simpa using h51
          omega
        obtain ⟨c, hck⟩ : ∃ c, l[k]? = some c := ⟨_, List.getElem?_eq_getElem (by omega)⟩
        obtain ⟨hE2, hA2⟩ := play_take h0 (k := k + 1) (by omega)
        have hco := (log_ok hlb c (List.mem_of_getElem? hck)).bag
        have hpart := part_law h0 hck hco
        have hpl1 := playB_len (s := s.s) (l.take (k + 1))
        refine cj_skip (ej_th (cj_seq (cj_region ?_)))
        refine oj_step (y_move rfl) rfl rfl rfl ?_
        refine oj_step (y_move rfl) rfl rfl rfl ?_
        refine oj_step (y_ixR (reads_sl) Try.underlying45 Try.sizeOf52 rfl rfl (⟨by omega, by omega⟩)) rfl rfl rfl ?_
        refine oj_step (y_ldW (reads_sl) Try.isAgg52 Try.sizeOf52 rfl (hck) (fun _ => rfl)) rfl rfl rfl ?_
        refine oj_alloc Try.zeroValue52 rfl rfl (fun b14 => ?_)
        refine oj_store rfl rfl rfl rfl Try.sizeOf52 rfl ?_
        refine oj_nil ?_
        refine ej_th (cj_seq ?_)
        refine cj_plan 14 (by kernel_rfl) (by kernel_rfl) ?_
        refine pl_y 0 rfl (y_loadN Try.isAgg26 Try.sizeOf26 rfl) rfl rfl rfl rfl (by kernel_rfl) ?_
        refine pl_y 1 rfl (y_move rfl) rfl rfl rfl rfl (by kernel_rfl) ?_
        refine pl_y 2 rfl (y_move rfl) rfl rfl rfl rfl (by kernel_rfl) ?_
        refine pl_y 3 rfl (y_add rfl rfl (by omega)) rfl rfl rfl rfl (by kernel_rfl) ?_
        refine pl_y 4 rfl (y_sliceTo (xs := l) (k + 1) Try.underlying45 Try.sizeOf52 rfl rfl (by omega) hcap) rfl rfl rfl rfl (by kernel_rfl) ?_
        refine pl_y 5 rfl (y_call Try.call30 rfl (fun w hp => k_Play s (l.take (k + 1)) A cc w (hs.mono hp.below) (sl_take (hl.mono hp.below) _))) rfl rfl rfl rfl (by kernel_rfl) ?_
        refine pl_y 6 rfl (y_move rfl) rfl rfl rfl rfl (by kernel_rfl) ?_
        refine pl_y 7 rfl (y_extract rfl rfl) rfl rfl rfl rfl (by kernel_rfl) ?_
        refine pl_y 8 rfl (y_extract rfl rfl) rfl rfl rfl rfl (by kernel_rfl) ?_
        refine pl_y 9 rfl (y_extract rfl rfl) rfl rfl rfl rfl (by kernel_rfl) ?_
        refine pl_w1 10 (by kernel_rfl) rfl rfl (pl_fire rfl rfl rfl (by kernel_rfl) ?_)
        refine oj_alloc Try.zeroValue48 rfl rfl (fun b15 => ?_)
        refine oj_nil ?_
        refine ej_pl (lt_y (y_extract rfl rfl) rfl (lt_y (y_extract rfl rfl) rfl (lt_y (y_extract rfl rfl) rfl (lt_y (y_move rfl) rfl (lt_y (y_call Try.call30 rfl (fun w hp => k_Play s (l.take (k + 1)) A cc w (hs.mono hp.below) (sl_take (hl.mono hp.below) _))) rfl (lt_y (y_sliceTo (xs := l) (k + 1) Try.underlying45 Try.sizeOf52 rfl rfl (by omega) hcap) rfl (lt_y (y_add rfl rfl (by omega)) rfl (lt_y (y_move rfl) rfl (lt_y (y_move rfl) rfl (lt_y (y_loadN Try.isAgg26 Try.sizeOf26 rfl) rfl (lt_nil))))))))))) ?_
        refine pl_w1 11 (by kernel_rfl) rfl rfl (pl_fire rfl rfl rfl (by kernel_rfl) ?_)
        refine oj_store (vs := ((playB s.s (l.take (k + 1))).flatMap encBa)) (n := 160) (hset := set_all _ _ (by rw [bf_len hpl1]; rfl)) rfl rfl rfl (bf_one _) Try.sizeOf48 (bf_len hpl1) ?_
        refine oj_nil ?_
        refine ej_pl (lt_y (y_extract rfl rfl) rfl (lt_y (y_extract rfl rfl) rfl (lt_w (by kernel_rfl) (lt_w (by kernel_rfl) (lt_w (by kernel_rfl) (lt_w (by kernel_rfl) (lt_w (by kernel_rfl) (lt_w (by kernel_rfl) (lt_w (by kernel_rfl) (lt_w (by kernel_rfl) (lt_nil))))))))))) ?_
        refine pl_y 12 rfl (y_assign rfl) rfl rfl rfl rfl (by kernel_rfl) ?_
        refine pl_y 13 rfl (y_assign rfl) rfl rfl rfl rfl (by kernel_rfl) ?_
        refine pl_end (by kernel_rfl) ?_
        refine ej_th (cj_seq (cj_seq ?_))
        rw [hE2]
        refine cj_regionG ?_
        refine gj_step (y_move rfl) rfl rfl rfl (gj_step (y_neq rfl rfl) rfl rfl rfl (gj_step (y_move rfl) rfl rfl rfl (?_)))
        refine gj_g 4 69 73 rfl rfl rfl rfl (fun hg69 => gj_yes rfl rfl rfl (y_fa fa52_2 rfl) rfl rfl (gj_yes rfl rfl rfl (y_load1 Try.isAgg3 rfl rfl) rfl rfl (gj_yes rfl rfl rfl (y_call Try.call27 rfl (fun w hp => k_From _ _ _ w)) rfl rfl (gj_yes rfl rfl rfl (y_not rfl) rfl rfl (gj_nil rfl))))) ?_
        refine gj_step (y_or rfl rfl rfl) rfl rfl rfl (?_)
        refine gj_nil ?_
        refine ej_th ?_
        refine cj_cond rfl (fun h74 => ?_) (fun h74 => ?_)
        · rw [btw_t.2 hco] at h74
          simp at h74
        · have h74b := h74
          try simp only [sxb] at h74
          refine cj_skip (ej_th (cj_seq ?_))
          refine cj_plan 8 (by kernel_rfl) (by kernel_rfl) ?_
          refine pl_y 0 rfl (y_fa fa52_2 rfl) rfl rfl rfl rfl (by kernel_rfl) ?_
          refine pl_y 1 rfl (y_load1 Try.isAgg3 rfl rfl) rfl rfl rfl rfl (by kernel_rfl) ?_
          refine pl_y 2 rfl (y_fa fa52_2 rfl) rfl rfl rfl rfl (by kernel_rfl) ?_
          refine pl_y 3 rfl (y_load1 Try.isAgg3 rfl rfl) rfl rfl rfl rfl (by kernel_rfl) ?_
          refine pl_y 4 rfl (y_ixArr Try.underlying48 Try.sizeOf47 rfl rfl (by omega)) rfl rfl rfl rfl (by kernel_rfl) ?_
          refine pl_y 5 rfl (y_loadN (hv := tk_at hpl hco) Try.isAgg47 Try.sizeOf47 rfl) rfl rfl rfl rfl (by kernel_rfl) ?_
          refine pl_y 6 rfl (y_ixArr Try.underlying48 Try.sizeOf47 rfl rfl (by omega)) rfl rfl rfl rfl (by kernel_rfl) ?_
          refine pl_w1 7 (by kernel_rfl) rfl rfl (pl_fire rfl rfl rfl (by kernel_rfl) ?_)
          refine oj_store (vs := encBa ((playB s.s (l.take k)).getD c.bag.toNat bag0)) (n := 5) (hset := set_at hpl1 hco _) rfl rfl rfl rfl Try.sizeOf47 rfl ?_
          refine oj_nil ?_
          refine ej_pl (lt_w (by kernel_rfl) (lt_w (by kernel_rfl) (lt_w (by kernel_rfl) (lt_w (by kernel_rfl) (lt_w (by kernel_rfl) (lt_w (by kernel_rfl) (lt_w (by kernel_rfl) (lt_nil)))))))) ?_
          refine pl_end (by kernel_rfl) ?_
          refine ej_th (cj_seq ?_)
          rw [hpart]
          refine cj_regionG ?_
          refine gj_step (y_loadN (hv := tk_all _ (bf_len hpl)) Try.isAgg48 Try.sizeOf48 rfl) rfl rfl rfl (gj_step (y_loadN (hv := tk_all _ (bf_len hpl)) Try.isAgg48 Try.sizeOf48 rfl) rfl rfl rfl (gj_step (y_bin rfl rfl (fun x y w => eq_bags hpl hpl x y w)) rfl rfl rfl (gj_step (y_move rfl) rfl rfl rfl (?_))))
          refine gj_g 1 85 86 rfl rfl rfl rfl (fun hg85 => gj_yes rfl rfl rfl (y_call Try.call19 rfl (fun w hp => k_works w)) rfl rfl (gj_nil rfl)) ?_
          refine gj_step (y_and rfl rfl rfl) rfl rfl rfl (gj_step (y_assign rfl) rfl rfl rfl (?_))
          refine gj_nil ?_
          refine ej_th (cj_ret ?_)
          exact ej_ret1 rfl Try.results9 rfl (fun w' hp => ⟨by simp, hp.below⟩)

end Go.Proofs.Ytomidcehahdmbaa
