/- Texts of ours, joined: 11 of them. Conditions: none. -/
import Derived.Test.YtppfniekcgnmjaaGreatXTopMoreBids1
import Derived.Test.YtppfniekcgnmjaaGreatProg
import Derived.Laws.StructEq
namespace Go.Proofs.YtppfniekcgnmjaaGreat.Pu
open Go.Sx Go.RowKit Um
set_option maxRecDepth 20000
theorem k_within (n lo hi : Int) (w : World)  : Calls Tryz.prog 21 #[.int .i64 n, .int .i64 lo, .int .i64 hi] w (fun e w' => e = .returned (.bool (btw lo n hi)) ∧ Grow w w') := by
  refine enter_pure (args := [.int .i64 n, .int .i64 lo, .int .i64 hi]) [] Tryz.func21 rfl (by rw [Tryz.ntmps21]; simp) (by simp) ?_
  refine cj_seq ?_
  refine cj_regionG (gj_step (y_assign rfl) rfl rfl rfl (gj_nil ?_))
  refine ej_th (cj_seq ?_)
  refine cj_regionG (gj_step (y_move rfl) rfl rfl rfl (gj_step (y_move rfl) rfl rfl rfl (gj_step (y_geq rfl rfl) rfl rfl rfl (gj_step (y_move rfl) rfl rfl rfl (gj_g 3 10 13 rfl rfl rfl rfl (fun hg10 => gj_yes rfl rfl rfl (y_move rfl) rfl rfl (gj_yes rfl rfl rfl (y_move rfl) rfl rfl (gj_yes rfl rfl rfl (y_leq rfl rfl) rfl rfl (gj_nil rfl)))) (gj_step (y_and rfl rfl rfl) rfl rfl rfl (gj_step (y_assign rfl) rfl rfl rfl (gj_nil ?_))))))))
  refine ej_th (cj_ret ?_)
  exact ej_ret1 rfl Tryz.results21 rfl (fun w' hp => ⟨rfl, hp.below⟩)

theorem k_sum (l : List Int) (A : Option Addr) (c : Nat) (w : World) (hl : Rd w 1 enInt A l) (hn : ∀ x ∈ l, 0 ≤ x) (hs : sumI l ≤ 4611686018427387904) : Calls Tryz.prog 57 #[.slice A l.length c] w (fun e w' => e = .returned (.int .i64 (sumI l)) ∧ Grow w w') := by
  have hlen := hl.len
  refine enter_pure (args := [.slice A l.length c]) [sl (fun b => b < w.heap.size) 1 enInt A l] Tryz.func57 rfl (by rw [Tryz.ntmps57]; simp) (fun g hg => by simp at hg; subst hg; exact ⟨hl, fun _ h => h⟩) ?_
  refine cj_seq ?_
  refine cj_regionG (gj_step (y_assign rfl) rfl rfl rfl (gj_nil ?_))
  refine ej_th (cj_seq ?_)
  refine cj_regionG (gj_step (y_assign rfl) rfl rfl rfl (gj_nil ?_))
  refine ej_th (cj_seq (cj_seq ?_))
  refine cj_regionG (gj_step (y_move rfl) rfl rfl rfl (gj_step (y_lenA Tryz.underlying23 rfl) rfl rfl rfl (gj_step (y_move rfl) rfl rfl rfl (gj_nil ?_))))
  refine ej_th (cj_block ?_)
  refine cj_lpic (X := Nat) [(2, _), (6, _), (7, _)] (fun k => k ≤ l.length) (fun k => [(3, .int .i64 (sumI (l.take k))), (8, .int .i64 (k : Nat))]) (fun k => l.length - k) 0 (Nat.zero_le _) ⟨rfl, rfl, rfl, rfl, rfl, trivial⟩ ?_
  rintro k hk
  dsimp only [List.cons_append, List.nil_append]
  refine cj_seq ?_
  refine cj_regionG (gj_step (y_lss rfl rfl) rfl rfl rfl (gj_nil ?_))
  refine ej_th (cj_seq ?_)
  refine cj_cond rfl (fun h9 => ?_) (fun h9 => ?_)
  · have h9b := h9
    try simp only [sxb] at h9
    obtain ⟨x, hx⟩ : ∃ x, l[k]? = some x := ⟨_, List.getElem?_eq_getElem (by omega)⟩
    have hx0 := hn x (List.mem_of_getElem? hx)
    have hsk := sumI_take_le hn (k + 1)
    rw [sumI_take_get hx] at hsk
    have hsk0 := sumI_take_le hn k
    refine cj_skip (ej_th (cj_seq (cj_block (cj_seq ?_))))
    refine cj_regionG (gj_step (y_ixR (reads_sl) Tryz.underlying23 Tryz.sizeOf3 rfl rfl (⟨by omega, by omega⟩)) rfl rfl rfl (gj_step (y_ld0 (reads_sl) Tryz.isAgg3 rfl (hx) rfl) rfl rfl rfl (gj_step (y_assign rfl) rfl rfl rfl (gj_nil ?_))))
    refine ej_th ?_
    refine cj_regionG (gj_step (y_move rfl) rfl rfl rfl (gj_step (y_move rfl) rfl rfl rfl (gj_step (y_add rfl rfl (by omega)) rfl rfl rfl (gj_step (y_assign rfl) rfl rfl rfl (gj_nil ?_)))))
    refine ej_blk (ej_th ?_)
    refine cj_regionG (gj_step (y_add rfl rfl (by omega)) rfl rfl rfl (gj_step (y_move rfl) rfl rfl rfl (gj_nil ?_)))
    rw [← sumI_take_get hx]
    exact ej_nx (k + 1) (by omega) (by omega) ⟨rfl, rfl, rfl, rfl, rfl, trivial⟩
  · have h9b := h9
    try simp only [sxb] at h9
    refine cj_exit (ej_then_exit (ej_then_exit (ej_blk_hit (ej_th (cj_seq ?_)))))
    refine cj_regionG (gj_step (y_move rfl) rfl rfl rfl (gj_step (y_assign rfl) rfl rfl rfl (gj_nil ?_)))
    refine ej_th (cj_ret ?_)
    refine ej_ret1 rfl Tryz.results57 rfl (fun w' hp => ⟨?_, hp.below⟩)
    rw [List.take_of_length_le (by omega)]

theorem k_IndexI (l : List Int) (A : Option Addr) (c : Nat) (f : Nat) (fi ca : Array Value) (q : Int → Bool) (w : World) (hl : Rd w 1 enInt A l) (hen : ∀ args w, (callFunc f args).run Tryz.prog w = .ok (.enter f args) w) (hpp : ∀ x ∈ l, ∀ w1, Grow w w1 → Calls Tryz.prog f (fi ++ [.int .i64 x].toArray ++ ca) w1 (fun e w2 => e = .returned (.bool (q x)) ∧ Grow w1 w2)) : Calls Tryz.prog 101 #[.slice A l.length c, .func (.func f) fi ca] w (fun e w' => e = .returned (.int .i64 (fidx q l 0)) ∧ Grow w w') := by
  have hlen := hl.len
  refine enter_pure (args := [.slice A l.length c, .func (.func f) fi ca]) [sl (fun b => b < w.heap.size) 1 enInt A l] Tryz.func101 rfl (by rw [Tryz.ntmps101]; simp) (fun g hg => by simp at hg; subst hg; exact ⟨hl, fun _ h => h⟩) ?_
  refine cj_seq ?_
  refine cj_regionG (gj_step (y_assign rfl) rfl rfl rfl (gj_nil ?_))
  refine ej_th (cj_seq (cj_seq ?_))
  refine cj_regionG (gj_step (y_move rfl) rfl rfl rfl (gj_step (y_lenA Tryz.underlying23 rfl) rfl rfl rfl (gj_step (y_move rfl) rfl rfl rfl (gj_nil ?_))))
  refine ej_th (cj_block ?_)
  refine cj_lpic (X := Nat) [(0, _), (1, _), (7, _)] (fun k => k ≤ l.length ∧ fidx q (l.drop k) k = fidx q l 0) (fun k => [(8, .int .i64 (k : Nat))]) (fun k => l.length - k) 0 (⟨Nat.zero_le _, rfl⟩) ⟨rfl, rfl, rfl, rfl, trivial⟩ ?_
  rintro k ⟨hk, hsk⟩
  dsimp only [List.cons_append, List.nil_append]
  refine cj_seq ?_
  refine cj_regionG (gj_step (y_lss rfl rfl) rfl rfl rfl (gj_nil ?_))
  refine ej_th (cj_seq ?_)
  refine cj_cond rfl (fun h9 => ?_) (fun h9 => ?_)
  · have h9b := h9
    try simp only [sxb] at h9
    obtain ⟨x, hx⟩ : ∃ x, l[k]? = some x := ⟨_, List.getElem?_eq_getElem (by omega)⟩
    rw [fidx_drop q l k x hx] at hsk
    refine cj_skip (ej_th (cj_seq (cj_block (cj_seq ?_))))
    refine cj_regionG (gj_step (y_move rfl) rfl rfl rfl (gj_step (y_assign rfl) rfl rfl rfl (gj_nil ?_)))
    refine ej_th (cj_seq ?_)
    refine cj_regionG ?_
    refine gj_step (y_move rfl) rfl rfl rfl (gj_step (y_move rfl) rfl rfl rfl (gj_step (y_move rfl) rfl rfl rfl (gj_step (y_ixR (reads_sl) Tryz.underlying23 Tryz.sizeOf3 rfl rfl (⟨by omega, by omega⟩)) rfl rfl rfl (gj_step (y_ld0 (reads_sl) Tryz.isAgg3 rfl (hx) rfl) rfl rfl rfl (?_)))))
    refine gj_step (y_callV hen rfl rfl (fun w1 hp => hpp x (List.mem_of_getElem? hx) w1 hp.below)) rfl rfl rfl ?_
    refine gj_nil ?_
    refine ej_th ?_
    refine cj_cond rfl (fun h16 => ?_) (fun h16 => ?_)
    · have h16b := h16
      try simp only [sxb] at h16
      refine cj_seq ?_
      refine cj_regionG (gj_step (y_move rfl) rfl rfl rfl (gj_step (y_assign rfl) rfl rfl rfl (gj_nil ?_)))
      refine ej_th (cj_ret (ej_blk_ret (ej_then_ret (ej_then_ret (ej_blk_ret (ej_then_ret ?_))))))
      refine ej_ret1 rfl Tryz.results101 rfl (fun w' hp => ⟨?_, hp.below⟩)
      rw [← hsk, if_pos h16b]
    · have h16b := h16
      try simp only [sxb] at h16
      refine cj_skip (ej_blk (ej_th ?_))
      refine cj_regionG (gj_step (y_add rfl rfl (by omega)) rfl rfl rfl (gj_step (y_move rfl) rfl rfl rfl (gj_nil ?_)))
      exact ej_nx (k + 1) (by omega) ⟨by omega, by rw [← hsk, if_neg (by rw [h16b]; simp)]⟩ ⟨rfl, rfl, rfl, rfl, trivial⟩
  · have h9b := h9
    try simp only [sxb] at h9
    refine cj_exit (ej_then_exit (ej_then_exit (ej_blk_hit (ej_th (cj_seq ?_)))))
    refine cj_regionG (gj_step (y_assign rfl) rfl rfl rfl (gj_nil ?_))
    refine ej_th (cj_ret ?_)
    refine ej_ret1 rfl Tryz.results101 rfl (fun w' hp => ⟨?_, hp.below⟩)
    rw [← hsk, List.drop_of_length_le (by omega)]; rfl

theorem k_ContI (l : List Int) (A : Option Addr) (c : Nat) (f : Nat) (fi ca : Array Value) (q : Int → Bool) (w : World) (hl : Rd w 1 enInt A l) (hen : ∀ args w, (callFunc f args).run Tryz.prog w = .ok (.enter f args) w) (hpp : ∀ x ∈ l, ∀ w1, Grow w w1 → Calls Tryz.prog f (fi ++ [.int .i64 x].toArray ++ ca) w1 (fun e w2 => e = .returned (.bool (q x)) ∧ Grow w1 w2)) : Calls Tryz.prog 76 #[.slice A l.length c, .func (.func f) fi ca] w (fun e w' => e = .returned (.bool (l.any q)) ∧ Grow w w') := by
  refine enter_pure (args := [.slice A l.length c, .func (.func f) fi ca]) [sl (fun b => b < w.heap.size) 1 enInt A l] Tryz.func76 rfl (by rw [Tryz.ntmps76]; simp) (fun g hg => by simp at hg; subst hg; exact ⟨hl, fun _ h => h⟩) ?_
  refine cj_seq ?_
  refine cj_regionG (gj_step (y_assign rfl) rfl rfl rfl (gj_nil ?_))
  refine ej_th (cj_seq ?_)
  refine cj_regionG ?_
  refine gj_step (y_move rfl) rfl rfl rfl (gj_step (y_move rfl) rfl rfl rfl (?_))
  refine gj_step (y_call Tryz.call101 rfl (fun w hp => k_IndexI l A c f fi ca q w hp.rd hen (fun x hx w1 hg => hpp x hx w1 (grow_trans hp.below hg)))) rfl rfl rfl ?_
  refine gj_step (y_geq rfl rfl) rfl rfl rfl (gj_step (y_assign rfl) rfl rfl rfl (?_))
  refine gj_nil ?_
  refine ej_th (cj_ret ?_)
  refine ej_ret1 rfl Tryz.results76 rfl (fun w' hp => ⟨?_, hp.below⟩)
  rw [fidx_any q l]

theorem k_am1 (n : Int) (w : World)  : Calls Tryz.prog 91 #[.int .i64 n] w (fun e w' => e = .returned (.bool (!(amtB n))) ∧ Grow w w') := by
  refine enter_pure (args := [.int .i64 n]) [] Tryz.func91 rfl (by rw [Tryz.ntmps91]; simp) (by simp) ?_
  refine cj_seq ?_
  refine cj_regionG (gj_step (y_assign rfl) rfl rfl rfl (gj_nil ?_))
  refine ej_th (cj_seq ?_)
  refine cj_regionG ?_
  refine gj_step (y_move rfl) rfl rfl rfl (?_)
  refine gj_step (y_call Tryz.call21 rfl (fun w hp => k_within _ _ _ w)) rfl rfl rfl ?_
  refine gj_step (y_not rfl) rfl rfl rfl (gj_step (y_assign rfl) rfl rfl rfl (?_))
  refine gj_nil ?_
  refine ej_th (cj_ret ?_)
  exact ej_ret1 rfl Tryz.results91 rfl (fun w' hp => ⟨rfl, hp.below⟩)

theorem k_amounts (l : List Int) (A : Option Addr) (c : Nat) (w : World) (hl : Rd w 1 enInt A l) : Calls Tryz.prog 56 #[.slice A l.length c] w (fun e w' => e = .returned (.bool (l.all amtB)) ∧ Grow w w') := by
  refine enter_pure (args := [.slice A l.length c]) [sl (fun b => b < w.heap.size) 1 enInt A l] Tryz.func56 rfl (by rw [Tryz.ntmps56]; simp) (fun g hg => by simp at hg; subst hg; exact ⟨hl, fun _ h => h⟩) ?_
  refine cj_seq ?_
  refine cj_regionG (gj_step (y_assign rfl) rfl rfl rfl (gj_nil ?_))
  refine ej_th (cj_seq ?_)
  refine cj_regionG ?_
  refine gj_step (y_move rfl) rfl rfl rfl (?_)
  refine gj_step (y_call Tryz.call76 rfl (fun w hp => k_ContI l A c 91 #[] #[] (fun x => !(amtB x)) w hp.rd Tryz.call91 (fun x hx w1 hg => k_am1 x w1))) rfl rfl rfl ?_
  refine gj_step (y_not rfl) rfl rfl rfl (gj_step (y_assign rfl) rfl rfl rfl (?_))
  refine gj_nil ?_
  refine ej_th (cj_ret ?_)
  refine ej_ret1 rfl Tryz.results56 rfl (fun w' hp => ⟨?_, hp.below⟩)
  rw [any_not, Bool.not_not]

theorem k_weights (l : List Int) (A : Option Addr) (c : Nat) (w : World) (hl : Rd w 1 enInt A l) : Calls Tryz.prog 25 #[.slice A l.length c] w (fun e w' => e = .returned (.bool (weiB l)) ∧ Grow w w') := by
  have hlen := hl.len
  refine enter_pure (args := [.slice A l.length c]) [sl (fun b => b < w.heap.size) 1 enInt A l] Tryz.func25 rfl (by rw [Tryz.ntmps25]; simp) (fun g hg => by simp at hg; subst hg; exact ⟨hl, fun _ h => h⟩) ?_
  refine cj_seq ?_
  refine cj_regionG (gj_step (y_assign rfl) rfl rfl rfl (gj_nil ?_))
  refine ej_th (cj_seq ?_)
  refine cj_regionG ?_
  refine gj_step (y_move rfl) rfl rfl rfl (gj_step (y_lenA Tryz.underlying23 rfl) rfl rfl rfl (?_))
  refine gj_step (y_call Tryz.call21 rfl (fun w hp => k_within _ _ _ w)) rfl rfl rfl ?_
  refine gj_step (y_move rfl) rfl rfl rfl (?_)
  refine gj_g 2 6 8 rfl rfl rfl rfl (fun hg6 => gj_yes rfl rfl rfl (y_move rfl) rfl rfl (gj_yes rfl rfl rfl (y_call Tryz.call56 rfl (fun w hp => k_amounts l A c w hp.rd)) rfl rfl (gj_nil rfl))) ?_
  refine gj_step (y_and rfl rfl rfl) rfl rfl rfl (gj_step (y_move rfl) rfl rfl rfl (?_))
  refine gj_g 3 10 13 rfl rfl rfl rfl (fun hg10 => gj_yes rfl rfl rfl (y_move rfl) rfl rfl (gj_yes rfl rfl rfl (y_call Tryz.call57 rfl (fun w hp => by
    have hg7b := hg10
    rw [Bool.and_eq_true] at hg7b
    have h5 : ∀ x ∈ l, 0 ≤ x ∧ x ≤ 67108864 := fun x hx => btw_t (all_mem hg7b.2 hx)
    have h6 := sumI_le_mul (m := 67108864) (fun x hx => (h5 x hx).2)
    have h7 := btw_t hg7b.1
    exact k_sum l A c w hp.rd (fun x hx => (h5 x hx).1) (by omega))) rfl rfl (gj_yes rfl rfl rfl (y_gtr rfl rfl) rfl rfl (gj_nil rfl)))) ?_
  refine gj_step (y_and rfl rfl rfl) rfl rfl rfl (gj_step (y_assign rfl) rfl rfl rfl (?_))
  refine gj_nil ?_
  refine ej_th (cj_ret ?_)
  refine ej_ret1 rfl Tryz.results25 rfl (fun w' hp => ⟨?_, hp.below⟩)
  rfl

theorem k_next (l out : List Int) (Al Ao : Option Addr) (cl co b0 b1 : Nat) (w : World) (h0 : (ownB b0 (cellsB 23 [.slice Al l.length cl])).P w) (h1 : (ownB b1 (cellsB 23 [.slice Ao out.length co])).P w) (hl : Rd w 1 enInt Al l) (ho : Rd w 1 enInt Ao out) (hlo : out.length = l.length) (hlb : ∀ x ∈ l, 0 ≤ x ∧ x ≤ 67108864) (hob : ∀ x ∈ out, 0 ≤ x ∧ x ≤ 34359738368) (hne : 0 < l.length) : Calls Tryz.prog 60 #[.pointer (some ⟨b0, 0, none⟩), .pointer (some ⟨b1, 0, none⟩)] w (fun e w' => e = .returned (.int .i64 (nxtI l out : Nat)) ∧ Grow w w') := by
  have hlen := hl.len
  have hol := ho.len
  refine enter_pure (args := [.pointer (some ⟨b0, 0, none⟩), .pointer (some ⟨b1, 0, none⟩)]) [ownB b0 (cellsB 23 [.slice Al l.length cl]), ownB b1 (cellsB 23 [.slice Ao out.length co]), sl (fun b => b < w.heap.size) 1 enInt Al l, sl (fun b => b < w.heap.size) 1 enInt Ao out] Tryz.func60 rfl (by rw [Tryz.ntmps60]; simp) (fun g hg => by
    simp only [List.mem_cons, List.mem_nil_iff, or_false] at hg
    rcases hg with rfl | rfl | rfl | rfl
    · exact ⟨h0, fun i hi => by have hi : i = b0 := hi; subst hi; exact (Array.getElem?_eq_some_iff.1 h0).1⟩
    · exact ⟨h1, fun i hi => by have hi : i = b1 := hi; subst hi; exact (Array.getElem?_eq_some_iff.1 h1).1⟩
    · exact ⟨hl, fun _ h => h⟩
    · exact ⟨ho, fun _ h => h⟩) ?_
  refine cj_seq ?_
  refine cj_regionG (gj_step (y_assign rfl) rfl rfl rfl (gj_nil ?_))
  refine ej_th (cj_seq ?_)
  refine cj_regionG (gj_step (y_assign rfl) rfl rfl rfl (gj_nil ?_))
  refine ej_th (cj_seq (cj_seq ?_))
  refine cj_regionG (gj_step (y_loadS1 Tryz.isAgg23 rfl rfl) rfl rfl rfl (gj_step (y_lenA Tryz.underlying23 rfl) rfl rfl rfl (gj_step (y_move rfl) rfl rfl rfl (gj_nil ?_))))
  refine ej_th (cj_block ?_)
  refine cj_lpic (X := Nat × Nat) [(0, _), (1, _), (2, _), (6, _), (7, _)] (fun ⟨k, b⟩ => k ≤ l.length ∧ (b < k ∨ (k = 0 ∧ b = 0)) ∧ bstF l out (l.length - k) k b = nxtI l out) (fun ⟨k, b⟩ => [(3, .int .i64 (b : Nat)), (8, .int .i64 (k : Nat))]) (fun ⟨k, b⟩ => l.length - k) (0, 0) (⟨Nat.zero_le _, .inr ⟨rfl, rfl⟩, by rw [Nat.sub_zero]; rfl⟩) ⟨rfl, rfl, rfl, rfl, rfl, rfl, rfl, trivial⟩ ?_
  rintro ⟨k, b⟩ ⟨hk, hbk, hsk⟩
  dsimp only [List.cons_append, List.nil_append]
  refine cj_seq ?_
  refine cj_regionG (gj_step (y_lss rfl rfl) rfl rfl rfl (gj_nil ?_))
  refine ej_th (cj_seq ?_)
  refine cj_cond rfl (fun h9 => ?_) (fun h9 => ?_)
  · have h9b := h9
    try simp only [sxb] at h9
    obtain ⟨x, hx⟩ : ∃ x, l[k]? = some x := ⟨_, List.getElem?_eq_getElem (by omega)⟩
    obtain ⟨y, hok⟩ : ∃ y, out[k]? = some y := ⟨_, List.getElem?_eq_getElem (by omega)⟩
    obtain ⟨u, hlb1⟩ : ∃ u, l[b]? = some u := ⟨_, List.getElem?_eq_getElem (by omega)⟩
    obtain ⟨v, hob1⟩ : ∃ v, out[b]? = some v := ⟨_, List.getElem?_eq_getElem (by omega)⟩
    have q1 := hlb x (List.mem_of_getElem? hx)
    have q2 := hob y (List.mem_of_getElem? hok)
    have q3 := hlb u (List.mem_of_getElem? hlb1)
    have q4 := hob v (List.mem_of_getElem? hob1)
    have m1 := mul_bd q1 (show 0 ≤ v + 1 ∧ v + 1 ≤ 34359738369 by omega)
    have m2 := mul_bd q3 (show 0 ≤ y + 1 ∧ y + 1 ≤ 34359738369 by omega)
    rw [show l.length - k = (l.length - (k + 1)) + 1 by omega, bstF, gd_of 0 hx, gd_of 0 hok, gd_of 0 hlb1, gd_of 0 hob1] at hsk
    refine cj_skip (ej_th (cj_seq (cj_block (cj_seq ?_))))
    refine cj_regionG (gj_step (y_move rfl) rfl rfl rfl (gj_step (y_ixR (reads_sl) Tryz.underlying23 Tryz.sizeOf3 rfl rfl (⟨by omega, by omega⟩)) rfl rfl rfl (gj_step (y_ld0 (reads_sl) Tryz.isAgg3 rfl (hx) rfl) rfl rfl rfl (gj_step (y_assign rfl) rfl rfl rfl (gj_step (y_assign rfl) rfl rfl rfl (gj_nil ?_))))))
    refine ej_th (cj_seq ?_)
    refine cj_draw (by kernel_rfl) (by kernel_rfl) (gj_step (y_move rfl) rfl rfl rfl (gj_step (y_loadS1 Tryz.isAgg23 rfl rfl) rfl rfl rfl (gj_step (y_move rfl) rfl rfl rfl (gj_step (y_ixR (reads_sl) Tryz.underlying23 Tryz.sizeOf3 rfl rfl (⟨by omega, by omega⟩)) rfl rfl rfl (gj_step (y_ld0 (reads_sl) Tryz.isAgg3 rfl (hob1) rfl) rfl rfl rfl (gj_step (y_add rfl rfl (by omega)) rfl rfl rfl (gj_step (y_mul rfl rfl (by omega)) rfl rfl rfl (gj_step (y_loadS1 Tryz.isAgg23 rfl rfl) rfl rfl rfl (gj_step (y_move rfl) rfl rfl rfl (gj_step (y_ixR (reads_sl) Tryz.underlying23 Tryz.sizeOf3 rfl rfl (⟨by omega, by omega⟩)) rfl rfl rfl (gj_step (y_ld0 (reads_sl) Tryz.isAgg3 rfl (hlb1) rfl) rfl rfl rfl (gj_step (y_loadS1 Tryz.isAgg23 rfl rfl) rfl rfl rfl (gj_step (y_move rfl) rfl rfl rfl (gj_step (y_ixR (reads_sl) Tryz.underlying23 Tryz.sizeOf3 rfl rfl (⟨by omega, by omega⟩)) rfl rfl rfl (gj_step (y_ld0 (reads_sl) Tryz.isAgg3 rfl (hok) rfl) rfl rfl rfl (gj_step (y_add rfl rfl (by omega)) rfl rfl rfl (gj_step (y_mul rfl rfl (by omega)) rfl rfl rfl (gj_step (y_gtr rfl rfl) rfl rfl rfl (gj_nil ?_)))))))))))))))))))
    refine ej_th ?_
    refine cj_cond rfl (fun h30 => ?_) (fun h30 => ?_)
    · have h30b := h30
      try simp only [sxb] at h30
      rw [if_pos (by omega)] at hsk
      refine cj_regionG (gj_step (y_move rfl) rfl rfl rfl (gj_step (y_assign rfl) rfl rfl rfl (gj_nil ?_)))
      refine ej_blk (ej_th ?_)
      refine cj_regionG (gj_step (y_add rfl rfl (by omega)) rfl rfl rfl (gj_step (y_move rfl) rfl rfl rfl (gj_nil ?_)))
      exact ej_nx (k + 1, k) (by first | omega | (simp only; omega)) ⟨by first | omega | (simp only; omega), .inl (by show k < k + 1; omega), hsk⟩ ⟨rfl, rfl, rfl, rfl, rfl, rfl, rfl, trivial⟩
    · have h30b := h30
      try simp only [sxb] at h30
      rw [if_neg (by omega)] at hsk
      refine cj_skip (ej_blk (ej_th ?_))
      refine cj_regionG (gj_step (y_add rfl rfl (by omega)) rfl rfl rfl (gj_step (y_move rfl) rfl rfl rfl (gj_nil ?_)))
      exact ej_nx (k + 1, b) (by first | omega | (simp only; omega)) ⟨by first | omega | (simp only; omega), .inl (by show b < k + 1; omega), hsk⟩ ⟨rfl, rfl, rfl, rfl, rfl, rfl, rfl, trivial⟩
  · have h9b := h9
    try simp only [sxb] at h9
    refine cj_exit (ej_then_exit (ej_then_exit (ej_blk_hit (ej_th (cj_seq ?_)))))
    refine cj_regionG (gj_step (y_move rfl) rfl rfl rfl (gj_step (y_assign rfl) rfl rfl rfl (gj_nil ?_)))
    refine ej_th (cj_ret ?_)
    refine ej_ret1 rfl Tryz.results60 rfl (fun w' hp => ⟨?_, hp.below⟩)
    rw [← hsk, show l.length - k = 0 by omega, bstF]

end Go.Proofs.YtppfniekcgnmjaaGreat.Pu
namespace Go.Proofs.YtppfniekcgnmjaaGreat.Pu
open Go.Sx Go.RowKit
set_option maxRecDepth 20000

end Go.Proofs.YtppfniekcgnmjaaGreat.Pu
namespace Go.Proofs.YtppfniekcgnmjaaGreat.Pu
open Go.Sx Go.RowKit Um
set_option maxRecDepth 20000
theorem k_share (l : List Int) (A : Option Addr) (c : Nat) (all : Int) (w : World) (hl : Rd w 1 enInt A l) (h24 : l.length ≤ 24) (hlb : ∀ x ∈ l, 0 ≤ x ∧ x ≤ 67108864) (hw : 0 < sumI l) (hall : 0 ≤ all ∧ all ≤ 34359738368) : Calls Tryz.prog 28 #[.slice A l.length c, .int .i64 all] w (fun e w' => ∃ A c, e = .returned (.slice A (shareL l all).length c) ∧ Grow w w' ∧ Res w w' 1 enInt A (shareL l all)) := by
  have hlen := hl.len
  have hne : 0 < l.length := by cases l with | nil => simp [sumI] at hw | cons _ _ => simp
  have hl0 : ∀ x ∈ l, 0 ≤ x := fun x hx => (hlb x hx).1
  have hsm : sumI l ≤ 1610612736 := by have := sumI_le_mul (m := 67108864) (fun x hx => (hlb x hx).2); omega
  refine enter_pure (args := [.slice A l.length c, .int .i64 all]) [sl (fun b => b < w.heap.size) 1 enInt A l] Tryz.func28 rfl (by rw [Tryz.ntmps28]; simp) (fun g hg => by simp at hg; subst hg; exact ⟨hl, fun _ h => h⟩) ?_
  refine cj_seq (cj_region ?_)
  refine oj_box rfl rfl rfl (fun b2 => ?_)
  refine oj_step (y_assign rfl) rfl rfl rfl ?_
  refine oj_nil ?_
  refine ej_th (cj_seq (cj_region ?_))
  refine oj_step (y_load1 Tryz.isAgg23 rfl rfl) rfl rfl rfl ?_
  refine oj_step (y_lenA Tryz.underlying23 rfl) rfl rfl rfl ?_
  refine oj_makeSlice1 (n := l.length) Tryz.underlying23 Tryz.type3 rfl rfl rfl rfl rfl (by show 8 * _ ≤ _; omega) (by omega) rfl (fun b13 => ?_)
  refine oj_litOw (b := b13) (e := 3) (c := l.length) (sz := 1) (enc := enInt) (List.replicate (l.length) (0 : Int)) (by simp) (replicate_enInt _) (by simp) (by unfold maxLen; omega) ?_
  refine oj_alloc Tryz.zeroValue23 rfl rfl (fun b5 => ?_)
  refine oj_store rfl rfl rfl rfl Tryz.sizeOf23 rfl ?_
  refine oj_nil ?_
  refine ej_th (cj_seq ?_)
  refine cj_regionG ?_
  refine gj_step (y_load1 Tryz.isAgg23 rfl rfl) rfl rfl rfl (?_)
  refine gj_step (y_call Tryz.call57 rfl (fun w hp => k_sum l A c w hp.rd hl0 (by omega))) rfl rfl rfl ?_
  refine gj_step (y_assign rfl) rfl rfl rfl (?_)
  refine gj_nil ?_
  refine ej_th (cj_seq (cj_seq ?_))
  refine cj_regionG (gj_step (y_load1 Tryz.isAgg23 rfl rfl) rfl rfl rfl (gj_step (y_lenA Tryz.underlying23 rfl) rfl rfl rfl (gj_step (y_move rfl) rfl rfl rfl (gj_nil ?_))))
  refine ej_th (cj_block ?_)
  rw [← fill_0 (fun w => all * w / sumI l) l]
  refine cj_lpi (X := Nat) [(1, _), (2, _), (4, _), (5, _), (6, _), (16, _), (17, _)] (fun k => k ≤ l.length) (fun k => [(18, .int .i64 (k : Nat))]) (fun k => [ownB b5 (cellsB 23 [.slice (some ⟨b13, 0, none⟩) l.length l.length]), ow 3 1 enInt (some ⟨b13, 0, none⟩) l.length (fillF (fun w => all * w / sumI l) l k), ownB b2 (cellsB 23 [.slice A l.length c])]) (fun k => [sl (fun b => b < w.heap.size) 1 enInt A l]) (fun k => l.length - k) 0 (Nat.zero_le _) ⟨rfl, rfl, rfl, rfl, rfl, rfl, rfl, rfl, trivial⟩ ?_
  rintro k hk
  dsimp only [List.cons_append, List.nil_append]
  refine cj_seq ?_
  refine cj_regionG (gj_step (y_lss rfl rfl) rfl rfl rfl (gj_nil ?_))
  refine ej_th (cj_seq ?_)
  refine cj_cond rfl (fun h19 => ?_) (fun h19 => ?_)
  · have h19b := h19
    try simp only [sxb] at h19
    obtain ⟨x, hx⟩ : ∃ x, l[k]? = some x := ⟨_, List.getElem?_eq_getElem (by omega)⟩
    have q1 := hlb x (List.mem_of_getElem? hx)
    have m1 := mul_bd hall q1
    refine cj_skip (ej_th (cj_seq (cj_block (cj_seq ?_))))
    refine cj_regionG (gj_step (y_move rfl) rfl rfl rfl (gj_step (y_ixR (reads_sl) Tryz.underlying23 Tryz.sizeOf3 rfl rfl (⟨by omega, by omega⟩)) rfl rfl rfl (gj_step (y_ld0 (reads_sl) Tryz.isAgg3 rfl (hx) rfl) rfl rfl rfl (gj_step (y_assign rfl) rfl rfl rfl (gj_step (y_assign rfl) rfl rfl rfl (gj_nil ?_))))))
    refine ej_th ?_
    refine cj_plan 9 (by kernel_rfl) (by kernel_rfl) ?_
    refine pl_y 0 rfl (y_load1 Tryz.isAgg23 rfl rfl) rfl rfl rfl rfl (by kernel_rfl) ?_
    refine pl_y 1 rfl (y_move rfl) rfl rfl rfl rfl (by kernel_rfl) ?_
    refine pl_y 2 rfl (y_move rfl) rfl rfl rfl rfl (by kernel_rfl) ?_
    refine pl_y 3 rfl (y_move rfl) rfl rfl rfl rfl (by kernel_rfl) ?_
    refine pl_y 4 rfl (y_mul rfl rfl (by omega)) rfl rfl rfl rfl (by kernel_rfl) ?_
    refine pl_y 5 rfl (y_move rfl) rfl rfl rfl rfl (by kernel_rfl) ?_
    refine pl_y 6 rfl (y_quo rfl rfl (⟨by omega, by omega, by omega⟩)) rfl rfl rfl rfl (by kernel_rfl) ?_
    refine pl_y 7 rfl (y_ixRm (m := l.length) (xs := fillF (fun w => all * w / sumI l) l k) (fill_len _ _ _ (by omega)).symm (reads_ow enInt_len) Tryz.underlying23 Tryz.sizeOf3 rfl rfl ⟨by omega, by omega⟩) rfl rfl rfl rfl (by kernel_rfl) ?_
    refine pl_w1 8 (by kernel_rfl) rfl rfl (pl_fire rfl rfl rfl (by kernel_rfl) ?_)
    refine oj_storeE (i := k) (u := all * x / sumI l) rfl rfl rfl rfl Tryz.sizeOf3 (fun _ => rfl) (by rw [fill_len _ _ _ (by omega)]; omega) ?_
    refine oj_nil ?_
    refine ej_pl (lt_w (by kernel_rfl) (lt_w (by kernel_rfl) (lt_w (by kernel_rfl) (lt_w (by kernel_rfl) (lt_w (by kernel_rfl) (lt_w (by kernel_rfl) (lt_w (by kernel_rfl) (lt_w (by kernel_rfl) (lt_nil))))))))) ?_
    refine pl_end (by kernel_rfl) ?_
    refine ej_blk (ej_th ?_)
    refine cj_regionG (gj_step (y_add rfl rfl (by omega)) rfl rfl rfl (gj_step (y_move rfl) rfl rfl rfl (gj_nil ?_)))
    rw [fill_set (fun w => all * w / sumI l) hx]
    exact ej_nx (k + 1) (by omega) (by omega) ⟨rfl, rfl, rfl, rfl, rfl, rfl, rfl, rfl, trivial⟩
  · have h19b := h19
    try simp only [sxb] at h19
    refine cj_exit (ej_then_exit (ej_then_exit (ej_blk_hit (ej_th (cj_seq ?_)))))
    have hkl : k = l.length := by omega
    subst hkl
    rw [show fillF (fun w => all * w / sumI l) l l.length = flo l all (sumI l) from fill_all _ _]
    have hfs := flo_le (l := l) (all := all) hw
    have hfn : ∀ x ∈ flo l all (sumI l), 0 ≤ x := fun x hx => by
      obtain ⟨u, hu, rfl⟩ := List.mem_map.1 hx
      exact Int.ediv_nonneg (Int.mul_nonneg hall.1 (hl0 u hu)) (by omega)
    have hf0 := sumI_nonneg hfn
    have hfl := flo_len l all (sumI l)
    refine cj_regionG (gj_step (y_makeFunc rfl rfl) rfl rfl rfl (gj_step (y_assign rfl) rfl rfl rfl (gj_nil ?_)))
    refine ej_th (cj_seq (cj_seq ?_))
    refine cj_regionG ?_
    refine gj_step (y_move rfl) rfl rfl rfl (gj_step (y_load1 Tryz.isAgg23 rfl rfl) rfl rfl rfl (?_))
    refine gj_step (y_call Tryz.call57 rfl (fun w hp => by
      have h := k_sum (flo l all (sumI l)) (some ⟨b13, 0, none⟩) l.length w (hp.rdO enInt_len (by unfold maxLen; omega)) hfn (by omega)
      rw [hfl] at h
      exact h)) rfl rfl rfl ?_
    refine gj_step (y_sub rfl rfl (by omega)) rfl rfl rfl (gj_step (y_assign rfl) rfl rfl rfl (?_))
    refine gj_nil ?_
    refine ej_th (cj_block ?_)
    rw [show all - sumI (flo l all (sumI l)) = ((all - sumI (flo l all (sumI l))).toNat : Int) from (Int.toNat_of_nonneg (by omega)).symm]
    refine cj_lpi (X := Nat × List Int) [(4, _), (5, _), (9, _)] (fun ⟨m, out⟩ => out.length = l.length ∧ (∀ x ∈ out, 0 ≤ x) ∧ sumI out + m = all ∧ shareF l m out = shareL l all) (fun ⟨m, out⟩ => [(10, .int .i64 (m : Nat))]) (fun ⟨m, out⟩ => [ownB b5 (cellsB 23 [.slice (some ⟨b13, 0, none⟩) l.length l.length]), ow 3 1 enInt (some ⟨b13, 0, none⟩) l.length (out), ownB b2 (cellsB 23 [.slice A l.length c])]) (fun ⟨m, out⟩ => [sl (fun b => b < w.heap.size) 1 enInt A l]) (fun ⟨m, out⟩ => m) ((all - sumI (flo l all (sumI l))).toNat, flo l all (sumI l)) (⟨flo_len _ _ _, hfn, by have := Int.toNat_of_nonneg (show 0 ≤ all - sumI (flo l all (sumI l)) by omega); omega, rfl⟩) ⟨rfl, rfl, rfl, rfl, trivial⟩ ?_
    rintro ⟨m, out⟩ ⟨hol, hon, hos, hof⟩
    dsimp only [List.cons_append, List.nil_append]
    refine cj_seq (cj_seq ?_)
    refine cj_regionG (gj_step (y_move rfl) rfl rfl rfl (gj_step (y_gtr rfl rfl) rfl rfl rfl (gj_nil ?_)))
    refine ej_th ?_
    refine cj_cond rfl (fun h38 => ?_) (fun h38 => ?_)
    · have h38b := h38
      try simp only [sxb] at h38
      have hob : ∀ x ∈ out, 0 ≤ x ∧ x ≤ 34359738368 := fun x hx => ⟨hon x hx, by have := sumI_mem_le hon x hx; omega⟩
      have hnx : nxtI l out < out.length := by rw [hol]; exact nxt_lt (getD_nn hl0) (getD_nn hon) hne
      have hg0 := getD_nn hon (nxtI l out)
      have hg1 := sumI_mem_le hon _ (List.mem_of_getElem? (geq 0 hnx))
      refine cj_skip (ej_th (cj_seq (cj_block ?_)))
      refine cj_plan 8 (by kernel_rfl) (by kernel_rfl) ?_
      refine pl_y 0 rfl (y_load1 Tryz.isAgg23 rfl rfl) rfl rfl rfl rfl (by kernel_rfl) ?_
      refine pl_y 1 rfl (y_move rfl) rfl rfl rfl rfl (by kernel_rfl) ?_
      refine pl_y 2 rfl (y_callV Tryz.call60 rfl rfl (fun w hp => by
        have h1 : (ownB b5 (cellsB 23 [.slice (some ⟨b13, 0, none⟩) out.length l.length])).P w := by rw [hol]; exact hp.own1
        exact k_next l out A (some ⟨b13, 0, none⟩) c l.length b2 b5 w hp.own1 h1 hp.rd (hp.rdO enInt_len (by unfold maxLen; omega)) hol hlb hob hne)) rfl rfl rfl rfl (by kernel_rfl) ?_
      refine pl_y 3 rfl (y_ixRm (m := l.length) (xs := out) hol.symm (reads_ow enInt_len) Tryz.underlying23 Tryz.sizeOf3 rfl rfl ⟨by omega, by omega⟩) rfl rfl rfl rfl (by kernel_rfl) ?_
      refine pl_y 4 rfl (y_ld0 (reads_ow (xs := out) enInt_len) Tryz.isAgg3 rfl (show out[nxtI l out]? = some (out.getD (nxtI l out) 0) from geq 0 hnx) rfl) rfl rfl rfl rfl (by kernel_rfl) ?_
      refine pl_y 5 rfl (y_add rfl rfl (by omega)) rfl rfl rfl rfl (by kernel_rfl) ?_
      refine pl_y 6 rfl (y_ixRm (m := l.length) (xs := out) hol.symm (reads_ow enInt_len) Tryz.underlying23 Tryz.sizeOf3 rfl rfl ⟨by omega, by omega⟩) rfl rfl rfl rfl (by kernel_rfl) ?_
      refine pl_w1 7 (by kernel_rfl) rfl rfl (pl_fire rfl rfl rfl (by kernel_rfl) ?_)
      refine oj_storeE (i := nxtI l out) (u := out.getD (nxtI l out) 0 + 1) rfl rfl rfl rfl Tryz.sizeOf3 (fun _ => rfl) (by first | omega | (simp only [List.length_set]; omega) | (simp; omega)) ?_
      refine oj_nil ?_
      refine ej_pl (lt_w (by kernel_rfl) (lt_w (by kernel_rfl) (lt_w (by kernel_rfl) (lt_w (by kernel_rfl) (lt_w (by kernel_rfl) (lt_w (by kernel_rfl) (lt_w (by kernel_rfl) (lt_nil)))))))) ?_
      refine pl_end (by kernel_rfl) ?_
      refine ej_blk (ej_th ?_)
      refine cj_regionG (gj_step (y_move rfl) rfl rfl rfl (gj_step (y_sub rfl rfl (by omega)) rfl rfl rfl (gj_step (y_assign rfl) rfl rfl rfl (gj_nil ?_))))
      rw [show (m : Int) - 1 = ((m - 1 : Nat) : Int) by omega, show out.set (nxtI l out) (out.getD (nxtI l out) 0 + 1) = bump out (nxtI l out) from rfl]
      exact ej_nx (m - 1, bump out (nxtI l out)) (by first | omega | (simp only; omega)) ⟨by rw [bump_len]; exact hol, bump_nn hon, by rw [bump, sumI_set _ _ _ hnx]; simp only; omega, by rw [← hof, show m = (m - 1) + 1 by omega, shareF]; rfl⟩ ⟨rfl, rfl, rfl, rfl, trivial⟩
    · have h38b := h38
      try simp only [sxb] at h38
      refine cj_exit (ej_then_exit (ej_then_exit (ej_blk_hit (ej_th (cj_seq ?_)))))
      refine cj_regionG (gj_step (y_load1 Tryz.isAgg23 rfl rfl) rfl rfl rfl (gj_step (y_assign rfl) rfl rfl rfl (gj_nil ?_)))
      refine ej_th (cj_ret ?_)
      have hm0 : m = 0 := by omega
      subst hm0
      rw [shareF] at hof
      subst hof
      rw [← hol]
      exact ej_ret1 rfl Tryz.results28 rfl (fun w' hp => ⟨_, _, rfl, hp.below, hp.res enInt_len (by unfold maxLen; omega)⟩)

theorem k_Share (l : List Int) (A : Option Addr) (c : Nat) (all : Int) (w : World) (hl : Rd w 1 enInt A l) : Calls Tryz.prog 30 #[.slice A l.length c, .int .i64 all] w (fun e w' => ∃ A c, e = .returned (.tuple #[.slice A (ShrL l all).length c, .int .i64 (ShrE l all)]) ∧ Grow w w' ∧ Res w w' 1 enInt A (ShrL l all)) := by
  have hlen := hl.len
  refine enter_pure (args := [.slice A l.length c, .int .i64 all]) [sl (fun b => b < w.heap.size) 1 enInt A l] Tryz.func30 rfl (by rw [Tryz.ntmps30]; simp) (fun g hg => by simp at hg; subst hg; exact ⟨hl, fun _ h => h⟩) ?_
  refine cj_seq ?_
  refine cj_regionG (gj_step (y_assign rfl) rfl rfl rfl (gj_step (y_assign rfl) rfl rfl rfl (gj_nil ?_)))
  refine ej_th (cj_seq (cj_seq ?_))
  refine cj_regionG ?_
  refine gj_step (y_move rfl) rfl rfl rfl (?_)
  refine gj_step (y_call Tryz.call25 rfl (fun w hp => k_weights l A c w hp.rd)) rfl rfl rfl ?_
  refine gj_step (y_not rfl) rfl rfl rfl (?_)
  refine gj_nil ?_
  refine ej_th ?_
  refine cj_cond rfl (fun h8 => ?_) (fun h8 => ?_)
  · have h8b := h8
    try simp only [sxb] at h8
    refine cj_seq ?_
    refine cj_regionG (gj_step (y_assign rfl) rfl rfl rfl (gj_step (y_assign rfl) rfl rfl rfl (gj_nil ?_)))
    refine ej_th (cj_ret (ej_then_ret ?_))
    rw [show ShrL l all = [] by rw [ShrL, not_t h8b]; rfl, show ShrE l all = 70 by rw [ShrE, not_t h8b]; rfl]
    exact ej_ret2 rfl Tryz.results30 rfl rfl (fun w' hp => ⟨none, 0, rfl, hp.below, Res.nil⟩)
  · have h8b := h8
    try simp only [sxb] at h8
    have hwt := wei_t (not_f h8b)
    refine cj_skip (ej_th (cj_seq (cj_seq ?_)))
    refine cj_regionG ?_
    refine gj_step (y_move rfl) rfl rfl rfl (?_)
    refine gj_step (y_call Tryz.call21 rfl (fun w hp => k_within _ _ _ w)) rfl rfl rfl ?_
    refine gj_step (y_not rfl) rfl rfl rfl (?_)
    refine gj_nil ?_
    refine ej_th ?_
    refine cj_cond rfl (fun h11 => ?_) (fun h11 => ?_)
    · have h11b := h11
      try simp only [sxb] at h11
      refine cj_seq ?_
      refine cj_regionG (gj_step (y_assign rfl) rfl rfl rfl (gj_step (y_assign rfl) rfl rfl rfl (gj_nil ?_)))
      refine ej_th (cj_ret (ej_then_ret ?_))
      rw [show ShrL l all = [] by rw [ShrL, not_f h8b, not_t h11b]; rfl, show ShrE l all = 7 by rw [ShrE, not_f h8b, not_t h11b]; rfl]
      exact ej_ret2 rfl Tryz.results30 rfl rfl (fun w' hp => ⟨none, 0, rfl, hp.below, Res.nil⟩)
    · have h11b := h11
      try simp only [sxb] at h11
      have hab := btw_t (not_f h11b)
      refine cj_skip (ej_th (cj_seq (cj_region ?_)))
      refine oj_step (y_move rfl) rfl rfl rfl ?_
      refine oj_step (y_move rfl) rfl rfl rfl ?_
      refine oj_callS (fun A c => .slice A (shareL l all).length c) 1 enInt (shareL l all) Tryz.call28 rfl (fun w hp => k_share l A c all w hp.rd hwt.2.1 hwt.2.2.1 hwt.2.2.2.1 hab) rfl (fun A14 c14 fp14 hfp14 => ?_)
      refine oj_step (y_assign rfl) rfl rfl rfl ?_
      refine oj_step (y_assign rfl) rfl rfl rfl ?_
      refine oj_nil ?_
      refine ej_th (cj_ret ?_)
      rw [show ShrL l all = shareL l all by rw [ShrL, not_f h8b, not_f h11b]; rfl, show ShrE l all = 0 by rw [ShrE, not_f h8b, not_f h11b]; rfl]
      exact ej_ret2 rfl Tryz.results30 rfl rfl (fun w' hp => ⟨A14, c14, rfl, hp.below, hp.resS hfp14⟩)

end Go.Proofs.YtppfniekcgnmjaaGreat.Pu
namespace Go.Proofs.YtppfniekcgnmjaaGreat.To
open Go.Sx Go.RowKit
set_option maxRecDepth 20000
theorem eq69 (a0 b0 : Int) (a1 b1 : Int) (x y : Operand) (w : World) : (do eqGuard .eql 69 x y (.agg #[.int .i64 a0, .int .i64 a1]) (.agg #[.int .i64 b0, .int .i64 b1]); binOp .eql 69 (.agg #[.int .i64 a0, .int .i64 a1]) (.agg #[.int .i64 b0, .int .i64 b1]) : Sem Value).run Tryz.prog w = .ok (.bool ((a0 == b0) && (a1 == b1))) w := by
  simp [go_sem, Tryz.eqGuardType69, Tryz.stoodInHeld69, Tryz.underlying69, Tryz.underlying3]
  try ((repeat' split) <;> simp_all)
theorem st105 : StructIs Tryz.prog 105 [(0, 1), (1, 1)] [.int .i64 0, .int .i64 0] := ⟨⟨_, Tryz.underlying105, fun w => by simp [Tryz.sizeOf3], Tryz.zeroValue105⟩⟩
theorem st117 : StructIs Tryz.prog 117 [(0, 1), (1, 1)] [.int .i64 0, .int .i64 0] := ⟨⟨_, Tryz.underlying117, fun w => by simp [Tryz.sizeOf3], Tryz.zeroValue117⟩⟩
theorem st165 : StructIs Tryz.prog 165 [(0, 1), (1, 1), (2, 1)] [.string ⟨#[]⟩, .slice none 0 0, .bool false] := ⟨⟨_, Tryz.underlying165, fun w => by simp [Tryz.sizeOf163, Tryz.sizeOf4, Tryz.sizeOf9], Tryz.zeroValue165⟩⟩
theorem st168 : StructIs Tryz.prog 168 [(0, 1), (1, 1), (2, 1), (3, 1)] [.string ⟨#[]⟩, .slice none 0 0, .slice none 0 0, .int .i64 0] := ⟨⟨_, Tryz.underlying168, fun w => by simp [Tryz.sizeOf163, Tryz.sizeOf166, Tryz.sizeOf3, Tryz.sizeOf9], Tryz.zeroValue168⟩⟩
theorem st174 : StructIs Tryz.prog 174 [(0, 1), (1, 1), (2, 1)] [.string ⟨#[]⟩, .slice none 0 0, .slice none 0 0] := ⟨⟨_, Tryz.underlying174, fun w => by simp [Tryz.sizeOf163, Tryz.sizeOf172, Tryz.sizeOf9], Tryz.zeroValue174⟩⟩
theorem st181 : StructIs Tryz.prog 181 [(0, 1), (1, 1), (2, 1)] [.int .i64 0, .int .i64 0, .int .i64 0] := ⟨⟨_, Tryz.underlying181, fun w => by simp [Tryz.sizeOf3], Tryz.zeroValue181⟩⟩
theorem st62 : StructIs Tryz.prog 62 [(0, 1), (1, 1), (2, 1)] [.int .i64 0, .int .i64 0, .slice none 0 0] := ⟨⟨_, Tryz.underlying62, fun w => by simp [Tryz.sizeOf3, Tryz.sizeOf60], Tryz.zeroValue62⟩⟩
theorem st67 : StructIs Tryz.prog 67 [(0, 1), (1, 1), (2, 1)] [.int .i64 0, .int .i64 0, .int .i64 0] := ⟨⟨_, Tryz.underlying67, fun w => by simp [Tryz.sizeOf3], Tryz.zeroValue67⟩⟩
theorem st69 : StructIs Tryz.prog 69 [(0, 1), (1, 1)] [.int .i64 0, .int .i64 0] := ⟨⟨_, Tryz.underlying69, fun w => by simp [Tryz.sizeOf3], Tryz.zeroValue69⟩⟩
end Go.Proofs.YtppfniekcgnmjaaGreat.To
namespace Go.Proofs.YtppfniekcgnmjaaGreat.To
open Go.Sx Go.RowKit Um
set_option maxRecDepth 20000
abbrev at0 (b : Nat) : Option Addr := some ⟨b, 0, none⟩
theorem c_prn (p q r : Nat) : Pl.PrnT [Pl.ClassV.mk ⟨#[99, 111, 97, 116]⟩ (at0 p) 1 [Pl.TraitV.mk ⟨#[102, 117, 114]⟩ (at0 q) 1 [⟨#[102, 111, 120]⟩] false] none 0 [] 0] (Pl.ItemV.mk ⟨#[99, 111, 97, 116]⟩ (at0 r) 1 [⟨#[102, 111, 120]⟩] none 0 []) = ⟨#[99, 111, 97, 116, 32, 102, 117, 114, 61, 102, 111, 120]⟩ := by kernel_rfl
theorem c_prnE (p q r : Nat) : Pl.askIE [Pl.ClassV.mk ⟨#[99, 111, 97, 116]⟩ (at0 p) 1 [Pl.TraitV.mk ⟨#[102, 117, 114]⟩ (at0 q) 1 [⟨#[102, 111, 120]⟩] false] none 0 [] 0] [(Pl.ItemV.mk ⟨#[99, 111, 97, 116]⟩ (at0 r) 1 [⟨#[102, 111, 120]⟩] none 0 [])] = 0 := by kernel_rfl
theorem c_cod : Tk.CodS 2 = ⟨#[48, 48, 48, 48, 48, 48, 48, 50, 57, 50]⟩ := by kernel_rfl
theorem c_most : Le.MostN 32 0 9 8 9 = 4 := by decide
theorem c_mostE : Le.MostE 32 0 9 8 9 = 0 := by decide

theorem c_sell : Au.SellV 5 0 [⟨0, 5⟩] [⟨3, 0, 20⟩] = ⟨3, 5⟩ := by kernel_rfl
theorem c_sellE : Au.SellE 5 0 [⟨0, 5⟩] [⟨3, 0, 20⟩] = 0 := by kernel_rfl
theorem c_shr : Pu.ShrL [1, 3] 4 = [1, 3] := by kernel_rfl
theorem c_shrE : Pu.ShrE [1, 3] 4 = 0 := by kernel_rfl

theorem k_first05  (w : World)  : Calls Tryz.prog 54 #[] w (fun e w' => e = .returned (.bool true) ∧ Grow w w') := by
  refine enter_pure (args := []) [] Tryz.func54 rfl (by rw [Tryz.ntmps54]; simp) (by simp) ?_
  refine cj_seq ?_
  refine cj_regionG (gj_step (y_assign rfl) rfl rfl rfl (gj_nil ?_))
  refine ej_th (cj_seq (cj_region ?_))
  refine oj_buildSlice (cs := [.string ⟨#[102, 111, 120]⟩]) [.string ⟨#[]⟩] Tryz.underlying163 Tryz.sizeOf9 Tryz.zeroValue9 rfl rfl (by kernel_rfl) (by kernel_rfl) rfl (fun b10 => ?_)
  refine oj_step (y_build (cs := [.string ⟨#[102, 117, 114]⟩, .slice (some ⟨b10, 0, none⟩) 1 1, .bool false]) st165 rfl (by kernel_rfl)) rfl rfl rfl ?_
  refine oj_buildSlice (cs := [.string ⟨#[102, 117, 114]⟩, .slice (some ⟨b10, 0, none⟩) 1 1, .bool false]) [.string ⟨#[]⟩, .slice none 0 0, .bool false] Tryz.underlying166 Tryz.sizeOf165 Tryz.zeroValue165 rfl rfl (by kernel_rfl) (by kernel_rfl) rfl (fun b12 => ?_)
  refine oj_step (y_build (cs := [.string ⟨#[99, 111, 97, 116]⟩, .slice (some ⟨b12, 0, none⟩) 1 1, .slice none 0 0, .int .i64 0]) st168 rfl (by kernel_rfl)) rfl rfl rfl ?_
  refine oj_buildSlice (cs := [.string ⟨#[99, 111, 97, 116]⟩, .slice (some ⟨b12, 0, none⟩) 1 1, .slice none 0 0, .int .i64 0]) [.string ⟨#[]⟩, .slice none 0 0, .slice none 0 0, .int .i64 0] Tryz.underlying169 Tryz.sizeOf168 Tryz.zeroValue168 rfl rfl (by kernel_rfl) (by kernel_rfl) rfl (fun b14 => ?_)
  refine oj_step (y_assign rfl) rfl rfl rfl ?_
  refine oj_nil ?_
  refine ej_th (cj_seq (cj_region ?_))
  refine oj_step (y_move rfl) rfl rfl rfl ?_
  refine oj_buildSlice (cs := [.string ⟨#[102, 111, 120]⟩]) [.string ⟨#[]⟩] Tryz.underlying163 Tryz.sizeOf9 Tryz.zeroValue9 rfl rfl (by kernel_rfl) (by kernel_rfl) rfl (fun b17 => ?_)
  refine oj_step (y_build (cs := [.string ⟨#[99, 111, 97, 116]⟩, .slice (some ⟨b17, 0, none⟩) 1 1, .slice none 0 0]) st174 rfl (by kernel_rfl)) rfl rfl rfl ?_
  refine oj_step (y_call Tryz.call86 rfl (fun w hp => by
    have h := Pl.k_Print [Pl.ClassV.mk ⟨#[99, 111, 97, 116]⟩ (at0 b12) 1 [Pl.TraitV.mk ⟨#[102, 117, 114]⟩ (at0 b10) 1 [⟨#[102, 111, 120]⟩] false] none 0 [] 0] (at0 b14) 1 (Pl.ItemV.mk ⟨#[99, 111, 97, 116]⟩ (at0 b17) 1 [⟨#[102, 111, 120]⟩] none 0 []) w (hp.rdLit (b := b14) (sz := 4) (enc := Pl.encCl) [Pl.ClassV.mk ⟨#[99, 111, 97, 116]⟩ (at0 b12) 1 [Pl.TraitV.mk ⟨#[102, 117, 114]⟩ (at0 b10) 1 [⟨#[102, 111, 120]⟩] false] none 0 [] 0] (fun _ => rfl) rfl (by unfold maxLen; simp)) (fun q hq => by
      rw [List.mem_singleton.1 hq]
      exact ⟨(hp.rdLit (b := b12) (sz := 3) (enc := Pl.encTr) [Pl.TraitV.mk ⟨#[102, 117, 114]⟩ (at0 b10) 1 [⟨#[102, 111, 120]⟩] false] (fun _ => rfl) rfl (by unfold maxLen; simp)), fun t ht => by
        rw [List.mem_singleton.1 ht]
        exact ⟨(hp.rdLit (b := b10) (sz := 1) (enc := enStr) [⟨#[102, 111, 120]⟩] (fun _ => rfl) rfl (by unfold maxLen; simp)), (fun s hs => by rw [List.mem_singleton.1 hs]; decide), show ByteArray.size ⟨#[102, 117, 114]⟩ ≤ 9223372036854775807 by decide⟩, Rd.nil, (fun s hs => by cases hs), show ByteArray.size ⟨#[99, 111, 97, 116]⟩ ≤ 9223372036854775807 by decide⟩) (.mk (hp.rdLit (b := b17) (sz := 1) (enc := enStr) [⟨#[102, 111, 120]⟩] (fun _ => rfl) rfl (by unfold maxLen; simp)) Rd.nil (show ByteArray.size ⟨#[99, 111, 97, 116]⟩ ≤ 9223372036854775807 by decide) (fun s hs => by rw [List.mem_singleton.1 hs]; decide) (fun p hp => by cases hp))
    rw [c_prn, c_prnE] at h
    exact h)) rfl rfl rfl ?_
  refine oj_step (y_move rfl) rfl rfl rfl ?_
  refine oj_step (y_extract rfl rfl) rfl rfl rfl ?_
  refine oj_step (y_extract rfl rfl) rfl rfl rfl ?_
  refine oj_step (y_assign rfl) rfl rfl rfl ?_
  refine oj_step (y_assign rfl) rfl rfl rfl ?_
  refine oj_nil ?_
  refine ej_th (cj_seq (cj_region ?_))
  refine oj_callS (fun A c => .tuple #[.slice A ([⟨#[102, 111, 120]⟩] : List ByteArray).length c, .int .i64 0]) 1 enStr ([⟨#[102, 111, 120]⟩] : List ByteArray) Tryz.call87 rfl (fun w hp => Wa.k_Means1 ⟨#[102, 111, 120]⟩ w) rfl (fun A23 c23 fp23 hfp23 => ?_)
  refine oj_step (y_move rfl) rfl rfl rfl ?_
  refine oj_step (y_extract rfl rfl) rfl rfl rfl ?_
  refine oj_step (y_extract rfl rfl) rfl rfl rfl ?_
  refine oj_step (y_assign rfl) rfl rfl rfl ?_
  refine oj_step (y_assign rfl) rfl rfl rfl ?_
  refine oj_nil ?_
  refine ej_th (cj_seq ?_)
  refine cj_regionG ?_
  refine gj_step (y_call Tryz.call88 rfl (fun w hp => by
    have h := Tk.k_Code 2 w
    rw [c_cod] at h
    exact h)) rfl rfl rfl ?_
  refine gj_step (y_move rfl) rfl rfl rfl (gj_step (y_extract rfl rfl) rfl rfl rfl (gj_step (y_extract rfl rfl) rfl rfl rfl (gj_step (y_assign rfl) rfl rfl rfl (gj_step (y_assign rfl) rfl rfl rfl (?_)))))
  refine gj_nil ?_
  refine ej_th (cj_seq ?_)
  refine cj_regionG ?_
  refine gj_step (y_build (cs := [.int .i64 32, .int .i64 0, .int .i64 9]) st181 rfl (by kernel_rfl)) rfl rfl rfl (gj_step (y_build (cs := [.int .i64 8, .int .i64 9]) st105 rfl (by kernel_rfl)) rfl rfl rfl (?_))
  refine gj_step (y_call Tryz.call89 rfl (fun w hp => by
    have h := Le.k_Most 32 0 9 8 9 w
    rw [c_most, c_mostE] at h
    exact h)) rfl rfl rfl ?_
  refine gj_step (y_move rfl) rfl rfl rfl (gj_step (y_extract rfl rfl) rfl rfl rfl (gj_step (y_extract rfl rfl) rfl rfl rfl (gj_step (y_assign rfl) rfl rfl rfl (gj_step (y_assign rfl) rfl rfl rfl (?_)))))
  refine gj_nil ?_
  refine ej_th (cj_seq (cj_region ?_))
  refine oj_step (y_move rfl) rfl rfl rfl ?_
  refine oj_step (y_eql rfl rfl) rfl rfl rfl ?_
  refine oj_step (y_move rfl) rfl rfl rfl ?_
  refine oj_yes rfl rfl rfl ?_
  refine oj_step (y_move rfl) rfl rfl rfl ?_
  refine oj_yes rfl rfl rfl ?_
  refine oj_step (y_eql rfl rfl) rfl rfl rfl ?_
  refine oj_step (y_pick rfl rfl rfl) rfl rfl rfl ?_
  refine oj_step (y_move rfl) rfl rfl rfl ?_
  refine oj_yes rfl rfl rfl ?_
  refine oj_step (y_move rfl) rfl rfl rfl ?_
  refine oj_yes rfl rfl rfl ?_
  refine oj_step (y_eql rfl rfl) rfl rfl rfl ?_
  refine oj_step (y_pick rfl rfl rfl) rfl rfl rfl ?_
  refine oj_step (y_move rfl) rfl rfl rfl ?_
  refine oj_yes rfl rfl rfl ?_
  refine oj_step (y_move rfl) rfl rfl rfl ?_
  refine oj_yes rfl rfl rfl ?_
  refine oj_step (y_eql rfl rfl) rfl rfl rfl ?_
  refine oj_step (y_pick rfl rfl rfl) rfl rfl rfl ?_
  refine oj_step (y_move rfl) rfl rfl rfl ?_
  refine oj_yes rfl rfl rfl ?_
  refine oj_step (y_move rfl) rfl rfl rfl ?_
  refine oj_yes rfl rfl rfl ?_
  refine oj_step (y_eqlS rfl rfl) rfl rfl rfl ?_
  refine oj_step (y_pick rfl rfl rfl) rfl rfl rfl ?_
  refine oj_step (y_move rfl) rfl rfl rfl ?_
  refine oj_yes rfl rfl rfl ?_
  refine oj_step (y_move rfl) rfl rfl rfl ?_
  refine oj_yes rfl rfl rfl ?_
  refine oj_buildSlice (cs := [.string ⟨#[102, 111, 120]⟩]) [.string ⟨#[]⟩] Tryz.underlying163 Tryz.sizeOf9 Tryz.zeroValue9 rfl rfl (by kernel_rfl) (by kernel_rfl) rfl (fun b56 => ?_)
  refine oj_yes rfl rfl rfl ?_
  refine oj_step (y_call Tryz.call90 rfl (fun w hp => k_SameTexts [⟨#[102, 111, 120]⟩] [⟨#[102, 111, 120]⟩] A23 (some ⟨b56, 0, none⟩) c23 1 w hp.rd (hp.rdLit (b := b56) (sz := 1) (enc := enStr) [⟨#[102, 111, 120]⟩] (fun _ => rfl) rfl (by unfold maxLen; simp)))) rfl rfl rfl ?_
  refine oj_step (y_pick rfl rfl rfl) rfl rfl rfl ?_
  refine oj_step (y_move rfl) rfl rfl rfl ?_
  refine oj_yes rfl rfl rfl ?_
  refine oj_step (y_move rfl) rfl rfl rfl ?_
  refine oj_yes rfl rfl rfl ?_
  refine oj_step (y_eqlS rfl rfl) rfl rfl rfl ?_
  refine oj_step (y_pick rfl rfl rfl) rfl rfl rfl ?_
  refine oj_step (y_move rfl) rfl rfl rfl ?_
  refine oj_yes rfl rfl rfl ?_
  refine oj_step (y_move rfl) rfl rfl rfl ?_
  refine oj_yes rfl rfl rfl ?_
  refine oj_step (y_eql rfl rfl) rfl rfl rfl ?_
  refine oj_step (y_pick rfl rfl rfl) rfl rfl rfl ?_
  refine oj_step (y_assign rfl) rfl rfl rfl ?_
  refine oj_nil ?_
  refine ej_th (cj_ret ?_)
  exact ej_ret1 rfl Tryz.results54 rfl (fun w' hp => ⟨rfl, hp.below⟩)

theorem k_sold07  (w : World)  : Calls Tryz.prog 20 #[] w (fun e w' => e = .returned (.bool true) ∧ Grow w w') := by
  refine enter_pure (args := []) [] Tryz.func20 rfl (by rw [Tryz.ntmps20]; simp) (by simp) ?_
  refine cj_seq ?_
  refine cj_regionG (gj_step (y_assign rfl) rfl rfl rfl (gj_nil ?_))
  refine ej_th (cj_seq (cj_region ?_))
  refine oj_step (y_build (cs := [.int .i64 0, .int .i64 5]) st117 rfl (by kernel_rfl)) rfl rfl rfl ?_
  refine oj_buildSlice (cs := [.int .i64 0, .int .i64 5]) [.int .i64 0, .int .i64 0] Tryz.underlying60 Tryz.sizeOf117 Tryz.zeroValue117 rfl rfl (by kernel_rfl) (by kernel_rfl) rfl (fun b7 => ?_)
  refine oj_step (y_build (cs := [.int .i64 5, .int .i64 0, .slice (some ⟨b7, 0, none⟩) 1 1]) st62 rfl (by kernel_rfl)) rfl rfl rfl ?_
  refine oj_step (y_build (cs := [.int .i64 3, .int .i64 0, .int .i64 20]) st67 rfl (by kernel_rfl)) rfl rfl rfl ?_
  refine oj_buildSlice (cs := [.int .i64 3, .int .i64 0, .int .i64 20]) [.int .i64 0, .int .i64 0, .int .i64 0] Tryz.underlying63 Tryz.sizeOf67 Tryz.zeroValue67 rfl rfl (by kernel_rfl) (by kernel_rfl) rfl (fun b10 => ?_)
  refine oj_step (y_call Tryz.call19 rfl (fun w hp => by
    have h := Au.k_Sell 5 0 [⟨0, 5⟩] (some ⟨b7, 0, none⟩) 1 [⟨3, 0, 20⟩] (some ⟨b10, 0, none⟩) 1 w (hp.rdLit (b := b7) (sz := 2) (enc := Au.encRi) [⟨0, 5⟩] (fun _ => rfl) rfl (by unfold maxLen; simp)) (hp.rdLit (b := b10) (sz := 3) (enc := Au.encBi) [⟨3, 0, 20⟩] (fun _ => rfl) rfl (by unfold maxLen; simp))
    rw [c_sell, c_sellE] at h
    exact h)) rfl rfl rfl ?_
  refine oj_step (y_move rfl) rfl rfl rfl ?_
  refine oj_step (y_extract rfl rfl) rfl rfl rfl ?_
  refine oj_step (y_extract rfl rfl) rfl rfl rfl ?_
  refine oj_alloc Tryz.zeroValue69 rfl rfl (fun b1 => ?_)
  refine oj_store rfl rfl rfl rfl Tryz.sizeOf69 rfl ?_
  refine oj_step (y_assign rfl) rfl rfl rfl ?_
  refine oj_nil ?_
  refine ej_th (cj_seq (cj_region ?_))
  refine oj_buildSlice (cs := [.int .i64 1, .int .i64 3]) [.int .i64 0, .int .i64 0] Tryz.underlying23 Tryz.sizeOf3 Tryz.zeroValue3 rfl rfl (by kernel_rfl) (by kernel_rfl) rfl (fun b15 => ?_)
  refine oj_callS (fun A c => .tuple #[.slice A ([1, 3] : List Int).length c, .int .i64 0]) 1 enInt ([1, 3] : List Int) Tryz.call30 rfl (fun w hp => by
    have h := Pu.k_Share [1, 3] (some ⟨b15, 0, none⟩) 2 4 w (hp.rdLit (b := b15) (sz := 1) (enc := enInt) [1, 3] (fun _ => rfl) rfl (by unfold maxLen; simp))
    rw [c_shr, c_shrE] at h
    exact h) rfl (fun A16 c16 fp16 hfp16 => ?_)
  refine oj_step (y_move rfl) rfl rfl rfl ?_
  refine oj_step (y_extract rfl rfl) rfl rfl rfl ?_
  refine oj_step (y_extract rfl rfl) rfl rfl rfl ?_
  refine oj_step (y_assign rfl) rfl rfl rfl ?_
  refine oj_step (y_assign rfl) rfl rfl rfl ?_
  refine oj_nil ?_
  refine ej_th (cj_seq (cj_region ?_))
  refine oj_step (y_move rfl) rfl rfl rfl ?_
  refine oj_step (y_eql rfl rfl) rfl rfl rfl ?_
  refine oj_step (y_move rfl) rfl rfl rfl ?_
  refine oj_yes rfl rfl rfl ?_
  refine oj_step (y_move rfl) rfl rfl rfl ?_
  refine oj_yes rfl rfl rfl ?_
  refine oj_step (y_eql rfl rfl) rfl rfl rfl ?_
  refine oj_step (y_pick rfl rfl rfl) rfl rfl rfl ?_
  refine oj_step (y_move rfl) rfl rfl rfl ?_
  refine oj_yes rfl rfl rfl ?_
  refine oj_step (y_loadN Tryz.isAgg69 Tryz.sizeOf69 rfl) rfl rfl rfl ?_
  refine oj_yes rfl rfl rfl ?_
  refine oj_step (y_build (cs := [.int .i64 3, .int .i64 5]) st69 rfl (by kernel_rfl)) rfl rfl rfl ?_
  refine oj_yes rfl rfl rfl ?_
  refine oj_step (y_bin rfl rfl (fun x y w => eq69 _ _ _ _ x y w)) rfl rfl rfl ?_
  refine oj_step (y_pick rfl rfl rfl) rfl rfl rfl ?_
  refine oj_step (y_move rfl) rfl rfl rfl ?_
  refine oj_yes rfl rfl rfl ?_
  refine oj_step (y_move rfl) rfl rfl rfl ?_
  refine oj_yes rfl rfl rfl ?_
  refine oj_buildSlice (cs := [.int .i64 1, .int .i64 3]) [.int .i64 0, .int .i64 0] Tryz.underlying23 Tryz.sizeOf3 Tryz.zeroValue3 rfl rfl (by kernel_rfl) (by kernel_rfl) rfl (fun b32 => ?_)
  refine oj_yes rfl rfl rfl ?_
  refine oj_step (y_call Tryz.call31 rfl (fun w hp => k_Same [1, 3] [1, 3] A16 (some ⟨b32, 0, none⟩) c16 2 w hp.rd (hp.rdLit (b := b32) (sz := 1) (enc := enInt) [1, 3] (fun _ => rfl) rfl (by unfold maxLen; simp)))) rfl rfl rfl ?_
  refine oj_step (y_pick rfl rfl rfl) rfl rfl rfl ?_
  refine oj_step (y_move rfl) rfl rfl rfl ?_
  refine oj_yes rfl rfl rfl ?_
  refine oj_step (y_call Tryz.call54 rfl (fun w hp => k_first05 w)) rfl rfl rfl ?_
  refine oj_step (y_pick rfl rfl rfl) rfl rfl rfl ?_
  refine oj_step (y_assign rfl) rfl rfl rfl ?_
  refine oj_nil ?_
  refine ej_th (cj_ret ?_)
  exact ej_ret1 rfl Tryz.results20 rfl (fun w' hp => ⟨rfl, hp.below⟩)

end Go.Proofs.YtppfniekcgnmjaaGreat.To
namespace Go.Proofs.YtppfniekcgnmjaaGreat.To
open Go Go.Sx Go.RowKit
section
open Am
theorem sold_bd {st rv : Int} {lad : List RiseV} {bs : List BidV} (h : Au.SellE st rv lad bs = 0) (hw : (Au.SellV st rv lad bs).winner ≠ -1) : 0 ≤ (Au.SellV st rv lad bs).price ∧ (Au.SellV st rv lad bs).price ≤ 100000 := by
  by_cases h3 : Au.lotB st rv lad = true
  · by_cases h4 : Au.bidsB bs = true
    · have hok := Au.lot_ok h3
      have ha := rgL_asc hok.lad hok.st.1
      have hV : Au.SellV st rv lad bs = knockF (rgL lad st) st (Au.leastR st rv lad) (offs (rgL lad st) bs) := by unfold Au.SellV; rw [if_pos ⟨h3, h4⟩]
      rw [hV] at hw ⊢
      obtain ⟨W, s, hW, hs, h0, hle, hl0, hlm, e⟩ := knock_sold (fun q hq => offs_pos hq) hw
      have hm := offs_rung ha hW.mem
      have p1 := ha.pos _ hm
      have p0 := hok.st
      obtain ⟨p2, p3, p4⟩ := price_bd ha (by omega) hm (rgL_start hok.lad hok.st.1) hle
      rw [e]
      show 0 ≤ max _ _ ∧ max _ _ ≤ 100000
      omega
    · unfold Au.SellE at h; rw [if_pos h3, if_neg h4] at h; cases h
  · unfold Au.SellE at h; rw [if_neg h3] at h; cases h
theorem sold_ok {st rv : Int} {lad : List RiseV} {bs : List BidV} (h : Au.SellE st rv lad bs = 0) : Au.lotB st rv lad = true ∧ Au.bidsB bs = true := by
  unfold Au.SellE at h
  split at h
  · split at h
    · constructor <;> assumption
    · cases h
  · cases h
theorem sold_more {st rv : Int} {lad : List RiseV} {bs : List BidV} {b : BidV} (h : Au.SellE st rv lad bs = 0) (h6 : Au.SellE st rv lad (bs ++ [b]) = 0) (hw : (Au.SellV st rv lad bs).winner ≠ -1) : (Au.SellV st rv lad (bs ++ [b])).winner ≠ -1 ∧ (Au.SellV st rv lad bs).price ≤ (Au.SellV st rv lad (bs ++ [b])).price := by
  obtain ⟨h3, h4⟩ := sold_ok h
  obtain ⟨_, h5⟩ := sold_ok h6
  have hok := Au.lot_ok h3
  have ha := rgL_asc hok.lad hok.st.1
  have e : Au.SellV st rv lad bs = knockF (rgL lad st) st (Au.leastR st rv lad) (offs (rgL lad st) bs) := by unfold Au.SellV; rw [if_pos ⟨h3, h4⟩]
  have e2 : Au.SellV st rv lad (bs ++ [b]) = knockF (rgL lad st) st (Au.leastR st rv lad) (offs (rgL lad st) (bs ++ [b])) := by unfold Au.SellV; rw [if_pos ⟨h3, h5⟩]
  rw [e] at hw
  rw [e, e2]
  exact knock_more ha (by have := hok.st; omega) (rgL_start hok.lad hok.st.1) (fun c hc => ((Au.bids_ok h4).2 c hc).1) ((Au.bids_ok h5).2 b (by simp)).1.1 hw
end
section
open Um
theorem porE_eq {isW : ByteArray → Bool} {a b : Int} (ha : 0 ≤ a ∧ a ≤ 67108864) (hb : 0 ≤ b ∧ b ≤ 67108864) (ps : List Pu.PartV) : Pu.porE isW a ps = Pu.porE isW b ps := by
  unfold Pu.porE
  rw [show btw 0 a 67108864 = true by simp [btw]; omega, show btw 0 b 67108864 = true by simp [btw]; omega]
theorem porE_ok {isW : ByteArray → Bool} {a : Int} {ps : List Pu.PartV} (h : Pu.porE isW a ps = 0) : Pu.weiB (Pu.valsL ps) = true ∧ ∀ p ∈ ps, Pu.duesB p.dues = true := by
  unfold Pu.porE at h
  split at h
  · cases h
  split at h
  · cases h
  split at h
  · cases h
  split at h
  · cases h
  split at h
  · cases h
  rename_i h1 h2
  exact ⟨by simpa using h1, fun p hp => by simp at h2; exact h2 p hp⟩
theorem gD0 {l : List Int} {i : Nat} {x : Int} (h : l[i]? = some x) : l.getD i 0 = x := by rw [List.getD_eq_getElem?_getD, h]; rfl
theorem por_len {isW : ByteArray → Bool} {a : Int} {ps : List Pu.PartV} (ha : 0 ≤ a) : (Pu.porL isW a ps).length = if Pu.porE isW a ps = 0 then ps.length else 0 := by
  unfold Pu.porL
  split
  · rename_i h
    obtain ⟨h1, _⟩ := porE_ok h
    have h2 := Pu.wei_t h1
    rw [Pu.portsL, List.length_zipWith, share_len (fun x hx => (h2.2.2.1 x hx).1) ha h2.2.2.2.1, Pu.valsL, List.length_map]; omega
  · rfl
/-- more to share: each portion is at least what it was -/
theorem por_more {isW : ByteArray → Bool} {a b : Int} (ha : 0 ≤ a) (hab : a ≤ b) (hb : b ≤ 67108864) {ps : List Pu.PartV} {i : Nat} {x y : Pu.PorP} (hx : (Pu.porL isW a ps)[i]? = some x) (hy : (Pu.porL isW b ps)[i]? = some y) :
    x.paid.length ≤ 24 ∧ x.paid.length = y.paid.length ∧ x.price ≤ y.price ∧ x.left ≤ y.left ∧ ∀ (j : Nat) (u v : Int), x.paid[j]? = some u → y.paid[j]? = some v → u ≤ v := by
  by_cases h : Pu.porE isW a ps = 0
  · have h' := h
    rw [porE_eq ⟨ha, by omega⟩ ⟨by omega, hb⟩ ps] at h'
    obtain ⟨h1, hd⟩ := porE_ok h
    have h2 := Pu.wei_t h1
    have hnn : ∀ x ∈ Pu.valsL ps, 0 ≤ x := fun x hx => (h2.2.2.1 x hx).1
    rw [Pu.porL, if_pos h, Pu.portsL, List.getElem?_zipWith] at hx
    rw [Pu.porL, if_pos h', Pu.portsL, List.getElem?_zipWith] at hy
    cases hp : ps[i]? with
    | none => rw [hp] at hx; simp at hx
    | some p =>
      rw [hp] at hx hy
      cases hm : (shareL (Pu.valsL ps) a)[i]? with
      | none => rw [hm] at hx; simp at hx
      | some m =>
        cases hn : (shareL (Pu.valsL ps) b)[i]? with
        | none => rw [hn] at hy; simp at hy
        | some n =>
          rw [hm] at hx; rw [hn] at hy
          simp only [Option.some.injEq] at hx hy
          subst hx; subst hy
          have hmn := share_mono hnn ha hab h2.2.2.2.1 i
          have hm0 := share_nn hnn ha h2.2.2.2.1 i
          rw [gD0 hm, gD0 hn] at hmn
          rw [gD0 hm] at hm0
          have hok := Pu.dues_ok (hd p (List.mem_of_getElem? hp))
          obtain ⟨s1, s2⟩ := spread_mono hok hm0 hmn
          have l1 := (spread_inv hok hm0).len
          have l2 := (spread_inv hok (show (0 : Int) ≤ n by omega)).len
          have l3 := (Pu.dues_t (hd p (List.mem_of_getElem? hp))).1
          refine ⟨by show (spreadL p.dues m).1.length ≤ 24; omega, by show (spreadL p.dues m).1.length = (spreadL p.dues n).1.length; omega, hmn, s2, fun j u v hu hv => ?_⟩
          have := s1 j
          rw [show (spreadL p.dues m).1.getD j 0 = u from gD0 hu, show (spreadL p.dues n).1.getD j 0 = v from gD0 hv] at this
          exact this
  · rw [Pu.porL, if_neg h] at hx; cases hx
end
end Go.Proofs.YtppfniekcgnmjaaGreat.To
namespace Go.Proofs.YtppfniekcgnmjaaGreat.Pu
open Go.Sx Go.RowKit
set_option maxRecDepth 20000
theorem el23 : ElemIs Tryz.prog 23 3 1 8 := ⟨⟨_, (.int .i64 0), Tryz.underlying23, Tryz.type3, by kernel_rfl, by kernel_rfl, by kernel_rfl, by kernel_rfl, by decide⟩⟩
theorem fa122_0 : FieldIs Tryz.prog 122 0 0 1 false := ⟨⟨_, _, Tryz.underlying122, rfl, rfl, Tryz.sizeOf3, Tryz.isAgg3, by decide⟩⟩
theorem fa122_1 : FieldIs Tryz.prog 122 1 1 1 false := ⟨⟨_, _, Tryz.underlying122, rfl, rfl, Tryz.sizeOf3, Tryz.isAgg3, by decide⟩⟩
end Go.Proofs.YtppfniekcgnmjaaGreat.Pu
namespace Go.Proofs.YtppfniekcgnmjaaGreat.Pu
open Go.Sx Go.RowKit Um
set_option maxRecDepth 20000
theorem k_IndexD (l : List DueV) (A : Option Addr) (c : Nat) (f : Nat) (fi ca : Array Value) (q : DueV → Bool) (w : World) (hl : Rd w 2 encDu A l) (hen : ∀ args w, (callFunc f args).run Tryz.prog w = .ok (.enter f args) w) (hpp : ∀ x ∈ l, ∀ w1, Grow w w1 → Calls Tryz.prog f (fi ++ [.agg #[.int .i64 x.rank, .int .i64 x.amount]].toArray ++ ca) w1 (fun e w2 => e = .returned (.bool (q x)) ∧ Grow w1 w2)) : Calls Tryz.prog 92 #[.slice A l.length c, .func (.func f) fi ca] w (fun e w' => e = .returned (.int .i64 (fidx q l 0)) ∧ Grow w w') := by
  have hlen := hl.len
  refine enter_pure (args := [.slice A l.length c, .func (.func f) fi ca]) [sl (fun b => b < w.heap.size) 2 encDu A l] Tryz.func92 rfl (by rw [Tryz.ntmps92]; simp) (fun g hg => by simp at hg; subst hg; exact ⟨hl, fun _ h => h⟩) ?_
  refine cj_seq ?_
  refine cj_regionG (gj_step (y_assign rfl) rfl rfl rfl (gj_nil ?_))
  refine ej_th (cj_seq (cj_seq ?_))
  refine cj_regionG (gj_step (y_move rfl) rfl rfl rfl (gj_step (y_lenA Tryz.underlying73 rfl) rfl rfl rfl (gj_step (y_move rfl) rfl rfl rfl (gj_nil ?_))))
  refine ej_th (cj_block ?_)
  refine cj_lpic (X := Nat) [(0, _), (1, _), (7, _)] (fun k => k ≤ l.length ∧ fidx q (l.drop k) k = fidx q l 0) (fun k => [(8, .int .i64 (k : Nat))]) (fun k => l.length - k) 0 (⟨Nat.zero_le _, rfl⟩) ⟨rfl, rfl, rfl, rfl, trivial⟩ ?_
  rintro k ⟨hk, hsk⟩
  dsimp only [List.cons_append, List.nil_append]
  refine cj_seq ?_
  refine cj_regionG (gj_step (y_lss rfl rfl) rfl rfl rfl (gj_nil ?_))
  refine ej_th (cj_seq ?_)
  refine cj_cond rfl (fun h9 => ?_) (fun h9 => ?_)
  · have h9b := h9
    try simp only [sxb] at h9
    obtain ⟨x, hx⟩ : ∃ x, l[k]? = some x := ⟨_, List.getElem?_eq_getElem (by omega)⟩
    rw [fidx_drop q l k x hx] at hsk
    refine cj_skip (ej_th (cj_seq (cj_block (cj_seq ?_))))
    refine cj_regionG (gj_step (y_move rfl) rfl rfl rfl (gj_step (y_assign rfl) rfl rfl rfl (gj_nil ?_)))
    refine ej_th (cj_seq ?_)
    refine cj_regionG ?_
    refine gj_step (y_move rfl) rfl rfl rfl (gj_step (y_move rfl) rfl rfl rfl (gj_step (y_move rfl) rfl rfl rfl (gj_step (y_ixR (reads_sl) Tryz.underlying73 Tryz.sizeOf122 rfl rfl (⟨by omega, by omega⟩)) rfl rfl rfl (gj_step (y_ldW (reads_sl) Tryz.isAgg122 Tryz.sizeOf122 rfl (hx) (fun _ => rfl)) rfl rfl rfl (?_)))))
    refine gj_step (y_callV hen rfl rfl (fun w1 hp => hpp x (List.mem_of_getElem? hx) w1 hp.below)) rfl rfl rfl ?_
    refine gj_nil ?_
    refine ej_th ?_
    refine cj_cond rfl (fun h16 => ?_) (fun h16 => ?_)
    · have h16b := h16
      try simp only [sxb] at h16
      refine cj_seq ?_
      refine cj_regionG (gj_step (y_move rfl) rfl rfl rfl (gj_step (y_assign rfl) rfl rfl rfl (gj_nil ?_)))
      refine ej_th (cj_ret (ej_blk_ret (ej_then_ret (ej_then_ret (ej_blk_ret (ej_then_ret ?_))))))
      refine ej_ret1 rfl Tryz.results92 rfl (fun w' hp => ⟨?_, hp.below⟩)
      rw [← hsk, if_pos h16b]
    · have h16b := h16
      try simp only [sxb] at h16
      refine cj_skip (ej_blk (ej_th ?_))
      refine cj_regionG (gj_step (y_add rfl rfl (by omega)) rfl rfl rfl (gj_step (y_move rfl) rfl rfl rfl (gj_nil ?_)))
      exact ej_nx (k + 1) (by omega) ⟨by omega, by rw [← hsk, if_neg (by rw [h16b]; simp)]⟩ ⟨rfl, rfl, rfl, rfl, trivial⟩
  · have h9b := h9
    try simp only [sxb] at h9
    refine cj_exit (ej_then_exit (ej_then_exit (ej_blk_hit (ej_th (cj_seq ?_)))))
    refine cj_regionG (gj_step (y_assign rfl) rfl rfl rfl (gj_nil ?_))
    refine ej_th (cj_ret ?_)
    refine ej_ret1 rfl Tryz.results92 rfl (fun w' hp => ⟨?_, hp.below⟩)
    rw [← hsk, List.drop_of_length_le (by omega)]; rfl

theorem k_ContD (l : List DueV) (A : Option Addr) (c : Nat) (f : Nat) (fi ca : Array Value) (q : DueV → Bool) (w : World) (hl : Rd w 2 encDu A l) (hen : ∀ args w, (callFunc f args).run Tryz.prog w = .ok (.enter f args) w) (hpp : ∀ x ∈ l, ∀ w1, Grow w w1 → Calls Tryz.prog f (fi ++ [.agg #[.int .i64 x.rank, .int .i64 x.amount]].toArray ++ ca) w1 (fun e w2 => e = .returned (.bool (q x)) ∧ Grow w1 w2)) : Calls Tryz.prog 58 #[.slice A l.length c, .func (.func f) fi ca] w (fun e w' => e = .returned (.bool (l.any q)) ∧ Grow w w') := by
  refine enter_pure (args := [.slice A l.length c, .func (.func f) fi ca]) [sl (fun b => b < w.heap.size) 2 encDu A l] Tryz.func58 rfl (by rw [Tryz.ntmps58]; simp) (fun g hg => by simp at hg; subst hg; exact ⟨hl, fun _ h => h⟩) ?_
  refine cj_seq ?_
  refine cj_regionG (gj_step (y_assign rfl) rfl rfl rfl (gj_nil ?_))
  refine ej_th (cj_seq ?_)
  refine cj_regionG ?_
  refine gj_step (y_move rfl) rfl rfl rfl (gj_step (y_move rfl) rfl rfl rfl (?_))
  refine gj_step (y_call Tryz.call92 rfl (fun w hp => k_IndexD l A c f fi ca q w hp.rd hen (fun x hx w1 hg => hpp x hx w1 (grow_trans hp.below hg)))) rfl rfl rfl ?_
  refine gj_step (y_geq rfl rfl) rfl rfl rfl (gj_step (y_assign rfl) rfl rfl rfl (?_))
  refine gj_nil ?_
  refine ej_th (cj_ret ?_)
  refine ej_ret1 rfl Tryz.results58 rfl (fun w' hp => ⟨?_, hp.below⟩)
  rw [fidx_any q l]

theorem k_du1 (d : DueV) (w : World)  : Calls Tryz.prog 59 #[.agg #[.int .i64 d.rank, .int .i64 d.amount]] w (fun e w' => e = .returned (.bool (!(dueB d))) ∧ Grow w w') := by
  refine enter_pure (args := [.agg #[.int .i64 d.rank, .int .i64 d.amount]]) [] Tryz.func59 rfl (by rw [Tryz.ntmps59]; simp) (by simp) ?_
  refine cj_seq (cj_region ?_)
  refine oj_box rfl rfl rfl (fun b1 => ?_)
  refine oj_step (y_assign rfl) rfl rfl rfl ?_
  refine oj_nil ?_
  refine ej_th (cj_seq ?_)
  refine cj_regionG ?_
  refine gj_step (y_fa0 fa122_0 rfl) rfl rfl rfl (gj_step (y_load1 Tryz.isAgg3 rfl rfl) rfl rfl rfl (?_))
  refine gj_step (y_call Tryz.call21 rfl (fun w hp => k_within _ _ _ w)) rfl rfl rfl ?_
  refine gj_step (y_not rfl) rfl rfl rfl (gj_step (y_move rfl) rfl rfl rfl (?_))
  refine gj_g 4 7 11 rfl rfl rfl rfl (fun hg7 => gj_yes rfl rfl rfl (y_fa fa122_1 rfl) rfl rfl (gj_yes rfl rfl rfl (y_load1 Tryz.isAgg3 rfl rfl) rfl rfl (gj_yes rfl rfl rfl (y_call Tryz.call21 rfl (fun w hp => k_within _ _ _ w)) rfl rfl (gj_yes rfl rfl rfl (y_not rfl) rfl rfl (gj_nil rfl))))) ?_
  refine gj_step (y_or rfl rfl rfl) rfl rfl rfl (gj_step (y_assign rfl) rfl rfl rfl (?_))
  refine gj_nil ?_
  refine ej_th (cj_ret ?_)
  refine ej_ret1 rfl Tryz.results59 rfl (fun w' hp => ⟨?_, hp.below⟩)
  unfold dueB amtB; rw [Bool.not_and]

theorem k_dues (ds : List DueV) (A : Option Addr) (c : Nat) (w : World) (hl : Rd w 2 encDu A ds) : Calls Tryz.prog 27 #[.slice A ds.length c] w (fun e w' => e = .returned (.bool (duesB ds)) ∧ Grow w w') := by
  refine enter_pure (args := [.slice A ds.length c]) [sl (fun b => b < w.heap.size) 2 encDu A ds] Tryz.func27 rfl (by rw [Tryz.ntmps27]; simp) (fun g hg => by simp at hg; subst hg; exact ⟨hl, fun _ h => h⟩) ?_
  refine cj_seq ?_
  refine cj_regionG (gj_step (y_assign rfl) rfl rfl rfl (gj_nil ?_))
  refine ej_th (cj_seq ?_)
  refine cj_regionG ?_
  refine gj_step (y_move rfl) rfl rfl rfl (gj_step (y_lenA Tryz.underlying73 rfl) rfl rfl rfl (gj_step (y_leq rfl rfl) rfl rfl rfl (gj_step (y_move rfl) rfl rfl rfl (?_))))
  refine gj_g 3 6 9 rfl rfl rfl rfl (fun hg6 => gj_yes rfl rfl rfl (y_move rfl) rfl rfl (gj_yes rfl rfl rfl (y_call Tryz.call58 rfl (fun w hp => k_ContD ds A c 59 #[] #[] (fun x => !(dueB x)) w hp.rd Tryz.call59 (fun x hx w1 hg => k_du1 x w1))) rfl rfl (gj_yes rfl rfl rfl (y_not rfl) rfl rfl (gj_nil rfl)))) ?_
  refine gj_step (y_and rfl rfl rfl) rfl rfl rfl (gj_step (y_assign rfl) rfl rfl rfl (?_))
  refine gj_nil ?_
  refine ej_th (cj_ret ?_)
  refine ej_ret1 rfl Tryz.results27 rfl (fun w' hp => ⟨?_, hp.below⟩)
  unfold duesB; rw [any_not, Bool.not_not]; by_cases h : (ds.length : Int) ≤ 24
  · simp [h, show ds.length ≤ 24 by omega]
  · simp [h, show ¬ ds.length ≤ 24 by omega]

theorem k_has (r : Int) (d : DueV) (w : World)  : Calls Tryz.prog 62 #[.int .i64 r, .agg #[.int .i64 d.rank, .int .i64 d.amount]] w (fun e w' => e = .returned (.bool (d.rank == r)) ∧ Grow w w') := by
  refine enter_pure (args := [.int .i64 r, .agg #[.int .i64 d.rank, .int .i64 d.amount]]) [] Tryz.func62 rfl (by rw [Tryz.ntmps62]; simp) (by simp) ?_
  refine cj_seq (cj_region ?_)
  refine oj_box rfl rfl rfl (fun b3 => ?_)
  refine oj_step (y_assign rfl) rfl rfl rfl ?_
  refine oj_nil ?_
  refine ej_th (cj_seq ?_)
  refine cj_regionG (gj_step (y_fa0 fa122_0 rfl) rfl rfl rfl (gj_step (y_load1 Tryz.isAgg3 rfl rfl) rfl rfl rfl (gj_step (y_move rfl) rfl rfl rfl (gj_step (y_eql rfl rfl) rfl rfl rfl (gj_step (y_assign rfl) rfl rfl rfl (gj_nil ?_))))))
  refine ej_th (cj_ret ?_)
  exact ej_ret1 rfl Tryz.results62 rfl (fun w' hp => ⟨rfl, hp.below⟩)

theorem k_chosen (l : List DueV) (A : Option Addr) (c : Nat) (f : Nat) (fi ca : Array Value) (q : DueV → Bool) (w : World) (hl : Rd w 2 encDu A l) (hb : l.length ≤ 1000) (hen : ∀ args w, (callFunc f args).run Tryz.prog w = .ok (.enter f args) w) (hpp : ∀ x ∈ l, ∀ w1, Grow w w1 → Calls Tryz.prog f (fi ++ [.agg #[.int .i64 x.rank, .int .i64 x.amount]].toArray ++ ca) w1 (fun e w2 => e = .returned (.bool (q x)) ∧ Grow w1 w2)) : Calls Tryz.prog 61 #[.slice A l.length c, .func (.func f) fi ca] w (fun e w' => ∃ A c, e = .returned (.slice A (natsI (chosenL q l)).length c) ∧ Grow w w' ∧ Res w w' 1 enInt A (natsI (chosenL q l))) := by
  have hlen := hl.len
  refine enter_pure (args := [.slice A l.length c, .func (.func f) fi ca]) [sl (fun b => b < w.heap.size) 2 encDu A l] Tryz.func61 rfl (by rw [Tryz.ntmps61]; simp) (fun g hg => by simp at hg; subst hg; exact ⟨hl, fun _ h => h⟩) ?_
  refine cj_seq ?_
  refine cj_regionG (gj_step (y_assign rfl) rfl rfl rfl (gj_nil ?_))
  refine ej_th (cj_seq ?_)
  refine cj_regionG (gj_step (y_assign rfl) rfl rfl rfl (gj_nil ?_))
  refine ej_th (cj_seq (cj_seq ?_))
  refine cj_regionG (gj_step (y_move rfl) rfl rfl rfl (gj_step (y_lenA Tryz.underlying73 rfl) rfl rfl rfl (gj_step (y_move rfl) rfl rfl rfl (gj_nil ?_))))
  refine ej_th (cj_block ?_)
  refine cj_ownNil 3 1 enInt ?_
  refine cj_lpi (X := Nat × Option Addr × Nat × List Int) [(1, _), (4, _), (8, _), (9, _)] (fun ⟨k, A1, c1, xs⟩ => k ≤ l.length ∧ xs = natsI (chosenL q (l.take k)) ∧ xs.length ≤ k) (fun ⟨k, A1, c1, xs⟩ => [(5, .slice A1 xs.length c1), (10, .int .i64 (k : Nat))]) (fun ⟨k, A1, c1, xs⟩ => [ow 3 1 enInt A1 c1 xs]) (fun ⟨k, A1, c1, xs⟩ => [sl (fun b => b < w.heap.size) 2 encDu A l]) (fun ⟨k, A1, c1, xs⟩ => l.length - k) (0, none, 0, []) (⟨Nat.zero_le _, rfl, Nat.le_refl _⟩) ⟨rfl, rfl, rfl, rfl, rfl, rfl, trivial⟩ ?_
  rintro ⟨k, A1, c1, xs⟩ ⟨hk, hxs, hxl⟩
  dsimp only [List.cons_append, List.nil_append]
  refine cj_seq ?_
  refine cj_regionG (gj_step (y_lss rfl rfl) rfl rfl rfl (gj_nil ?_))
  refine ej_th (cj_seq ?_)
  refine cj_cond rfl (fun h11 => ?_) (fun h11 => ?_)
  · have h11b := h11
    try simp only [sxb] at h11
    obtain ⟨x, hx⟩ : ∃ x, l[k]? = some x := ⟨_, List.getElem?_eq_getElem (by omega)⟩
    refine cj_skip (ej_th (cj_seq (cj_block (cj_seq (cj_region ?_)))))
    refine oj_step (y_move rfl) rfl rfl rfl ?_
    refine oj_step (y_ixR (reads_sl) Tryz.underlying73 Tryz.sizeOf122 rfl rfl (⟨by omega, by omega⟩)) rfl rfl rfl ?_
    refine oj_step (y_ldW (reads_sl) Tryz.isAgg122 Tryz.sizeOf122 rfl (hx) (fun _ => rfl)) rfl rfl rfl ?_
    refine oj_alloc Tryz.zeroValue122 rfl rfl (fun b7 => ?_)
    refine oj_step (y_assign rfl) rfl rfl rfl ?_
    refine oj_store rfl rfl rfl rfl Tryz.sizeOf122 rfl ?_
    refine oj_nil ?_
    refine ej_th (cj_seq ?_)
    refine cj_regionG ?_
    refine gj_step (y_move rfl) rfl rfl rfl (gj_step (y_loadN Tryz.isAgg122 Tryz.sizeOf122 rfl) rfl rfl rfl (?_))
    refine gj_step (y_callV hen rfl rfl (fun w1 hp => hpp x (List.mem_of_getElem? hx) w1 hp.below)) rfl rfl rfl ?_
    refine gj_nil ?_
    refine ej_th ?_
    refine cj_cond rfl (fun h17 => ?_) (fun h17 => ?_)
    · have h17b := h17
      try simp only [sxb] at h17
      refine cj_region ?_
      refine oj_step (y_move rfl) rfl rfl rfl ?_
      refine oj_step (y_move rfl) rfl rfl rfl ?_
      refine oj_buildSlice (cs := [.int .i64 (k : Nat)]) [.int .i64 0] Tryz.underlying23 Tryz.sizeOf3 Tryz.zeroValue3 rfl rfl (by kernel_rfl) (by kernel_rfl) rfl (fun b20 => ?_)
      refine oj_append  el23 (fun _ => rfl) enInt_one rfl rfl rfl (reads_lit (sz := 1) [((k : Nat) : Int)] (fun _ => rfl) rfl) (by unfold maxLen; simp only [List.length_append, List.length_cons, List.length_nil]; omega) (by simp only [List.length_append, List.length_cons, List.length_nil]; omega) rfl (fun A21 c21 => ?_)
      refine oj_step (y_assign rfl) rfl rfl rfl ?_
      refine oj_nil ?_
      refine ej_blk (ej_th ?_)
      refine cj_regionG (gj_step (y_add rfl rfl (by omega)) rfl rfl rfl (gj_step (y_move rfl) rfl rfl rfl (gj_nil ?_)))
      exact ej_nx (k + 1, A21, c21, xs ++ [((k : Nat) : Int)]) (by simp only; omega) ⟨by first | omega | (simp only; omega), by rw [hxs, chosen_snoc q hx, if_pos h17b]; simp [natsI], by simp only [List.length_append, List.length_cons, List.length_nil]; omega⟩ ⟨rfl, rfl, rfl, rfl, rfl, rfl, trivial⟩
    · have h17b := h17
      try simp only [sxb] at h17
      refine cj_skip (ej_blk (ej_th ?_))
      refine cj_regionG (gj_step (y_add rfl rfl (by omega)) rfl rfl rfl (gj_step (y_move rfl) rfl rfl rfl (gj_nil ?_)))
      exact ej_nx (k + 1, A1, c1, xs) (by simp only; omega) ⟨by first | omega | (simp only; omega), by rw [hxs, chosen_snoc q hx, if_neg (by rw [h17b]; simp), List.append_nil], by simp only; omega⟩ ⟨rfl, rfl, rfl, rfl, rfl, rfl, trivial⟩
  · have h11b := h11
    try simp only [sxb] at h11
    refine cj_exit (ej_then_exit (ej_then_exit (ej_blk_hit (ej_th (cj_seq ?_)))))
    refine cj_regionG (gj_step (y_move rfl) rfl rfl rfl (gj_step (y_assign rfl) rfl rfl rfl (gj_nil ?_)))
    refine ej_th (cj_ret ?_)
    have hkl : k = l.length := by omega
    subst hkl
    rw [List.take_length] at hxs
    rw [← hxs]
    exact ej_ret1 rfl Tryz.results61 rfl (fun w' hp => ⟨A1, c1, rfl, hp.below, hp.res enInt_len (by unfold maxLen; omega)⟩)

set_option maxHeartbeats 1000000 in
theorem k_spread (ds : List DueV) (A : Option Addr) (c : Nat) (left : Int) (w : World) (hl : Rd w 2 encDu A ds) (hdu : duesB ds = true) (hleft : 0 ≤ left ∧ left ≤ 67108864) : Calls Tryz.prog 29 #[.slice A ds.length c, .int .i64 left] w (fun e w' => ∃ A c, e = .returned (.tuple #[.slice A (spreadL ds left).1.length c, .int .i64 (spreadL ds left).2]) ∧ Grow w w' ∧ Res w w' 1 enInt A (spreadL ds left).1) := by
  have hlen := hl.len
  obtain ⟨h24, hdb⟩ := dues_t hdu
  have hok := dues_ok hdu
  refine enter_pure (args := [.slice A ds.length c, .int .i64 left]) [sl (fun b => b < w.heap.size) 2 encDu A ds] Tryz.func29 rfl (by rw [Tryz.ntmps29]; simp) (fun g hg => by simp at hg; subst hg; exact ⟨hl, fun _ h => h⟩) ?_
  refine cj_seq ?_
  refine cj_regionG (gj_step (y_assign rfl) rfl rfl rfl (gj_step (y_assign rfl) rfl rfl rfl (gj_nil ?_)))
  refine ej_th (cj_seq (cj_region ?_))
  refine oj_step (y_move rfl) rfl rfl rfl ?_
  refine oj_step (y_lenA Tryz.underlying73 rfl) rfl rfl rfl ?_
  refine oj_makeSlice1 (n := ds.length) Tryz.underlying23 Tryz.type3 rfl rfl rfl rfl rfl (by show 8 * _ ≤ _; omega) (by omega) rfl (fun b17 => ?_)
  refine oj_litOw (b := b17) (e := 3) (c := ds.length) (sz := 1) (enc := enInt) (List.replicate (ds.length) (0 : Int)) (by simp) (replicate_enInt _) (by simp) (by unfold maxLen; omega) ?_
  refine oj_step (y_assign rfl) rfl rfl rfl ?_
  refine oj_nil ?_
  refine ej_th (cj_seq (cj_seq ?_))
  refine cj_regionG (gj_step (y_move rfl) rfl rfl rfl (gj_nil ?_))
  refine ej_th (cj_block ?_)
  refine cj_lpi (X := Nat × List Int × Int) [(0, _), (4, _), (5, _), (6, _)] (fun ⟨r, paid, lf⟩ => r ≤ 10 ∧ SpInv ds (r : Nat) left (paid, lf) ∧ spreadF ds (10 - r) (paid, lf) = spreadL ds left) (fun ⟨r, paid, lf⟩ => [(1, .int .i64 lf), (18, .int .i64 (r : Nat))]) (fun ⟨r, paid, lf⟩ => [ow 3 1 enInt (some ⟨b17, 0, none⟩) ds.length (paid)]) (fun ⟨r, paid, lf⟩ => [sl (fun b => b < w.heap.size) 2 encDu A ds]) (fun ⟨r, paid, lf⟩ => 10 - r) (0, List.replicate ds.length 0, left) (⟨Nat.zero_le _, sp_start hleft.1, rfl⟩) ⟨rfl, rfl, rfl, rfl, rfl, rfl, trivial⟩ ?_
  rintro ⟨r, paid, lf⟩ ⟨hr, hsi, hsp⟩
  dsimp only [List.cons_append, List.nil_append]
  refine cj_seq ?_
  refine cj_regionG (gj_step (y_lss rfl rfl) rfl rfl rfl (gj_nil ?_))
  refine ej_th (cj_seq ?_)
  refine cj_cond rfl (fun h19 => ?_) (fun h19 => ?_)
  · have h19b := h19
    try simp only [sxb] at h19
    have hhl : (hereL ds (r : Nat)).length ≤ ds.length := chosen_len _ _
    have hl0 : 0 ≤ lf := hsi.left
    have hl1 : lf ≤ 67108864 := by have h9 := hsi.sum; have h8 := sumI_nonneg (l := paid) (fun x hx => by obtain ⟨j, hj, rfl⟩ := List.mem_iff_getElem.1 hx; have h7 := hsi.nn j; rwa [gd_lt hj] at h7); simp only at h9; omega
    refine cj_skip (ej_th (cj_seq (cj_block (cj_seq ?_))))
    refine cj_regionG (gj_step (y_move rfl) rfl rfl rfl (gj_step (y_assign rfl) rfl rfl rfl (gj_nil ?_)))
    refine ej_th (cj_seq (cj_region ?_))
    refine oj_step (y_move rfl) rfl rfl rfl ?_
    refine oj_step (y_move rfl) rfl rfl rfl ?_
    refine oj_step (y_makeFunc rfl rfl) rfl rfl rfl ?_
    refine oj_callS (fun A c => .slice A (natsI (hereL ds (r : Nat))).length c) 1 enInt (natsI (hereL ds (r : Nat))) Tryz.call61 rfl (fun w hp => k_chosen ds A c 62 #[.int .i64 (r : Nat)] #[] (fun d : DueV => d.rank == (r : Nat)) w hp.rd (by omega) Tryz.call62 (fun x hx w1 hg => k_has (r : Nat) x w1)) rfl (fun A24 c24 fp24 hfp24 => ?_)
    refine oj_step (y_assign rfl) rfl rfl rfl ?_
    refine oj_nil ?_
    refine ej_th (cj_seq ?_)
    refine cj_regionG (gj_step (y_assign rfl) rfl rfl rfl (gj_nil ?_))
    refine ej_th (cj_seq (cj_seq ?_))
    refine cj_regionG (gj_step (y_move rfl) rfl rfl rfl (gj_step (y_lenA Tryz.underlying23 rfl) rfl rfl rfl (gj_step (y_move rfl) rfl rfl rfl (gj_nil ?_))))
    refine ej_th (cj_block ?_)
    rw [nats_len]
    refine cj_ownNil 3 1 enInt ?_
    refine cj_lpi (X := Nat × Option Addr × Nat × List Int) [(1, _), (18, _), (0, _), (4, _), (5, _), (6, _), (8, _), (25, _), (26, _)] (fun ⟨k, A1, c1, xs⟩ => k ≤ (hereL ds (r : Nat)).length ∧ xs = (ownL ds (r : Nat)).take k ∧ xs.length = k) (fun ⟨k, A1, c1, xs⟩ => [(9, .slice A1 xs.length c1), (27, .int .i64 (k : Nat))]) (fun ⟨k, A1, c1, xs⟩ => [ow 3 1 enInt A1 c1 xs, ow 3 1 enInt (some ⟨b17, 0, none⟩) ds.length (paid)]) (fun ⟨k, A1, c1, xs⟩ => [sl fp24 1 enInt A24 (natsI (hereL ds (r : Nat))), sl (fun b => b < w.heap.size) 2 encDu A ds]) (fun ⟨k, A1, c1, xs⟩ => (hereL ds (r : Nat)).length - k) (0, none, 0, []) (⟨Nat.zero_le _, rfl, rfl⟩) ⟨rfl, rfl, rfl, rfl, rfl, rfl, rfl, rfl, rfl, rfl, rfl, trivial⟩ ?_
    rintro ⟨k, A1, c1, xs⟩ ⟨hk, hxs, hxl⟩
    dsimp only [List.cons_append, List.nil_append]
    refine cj_seq ?_
    refine cj_regionG (gj_step (y_lss rfl rfl) rfl rfl rfl (gj_nil ?_))
    refine ej_th (cj_seq ?_)
    refine cj_cond rfl (fun h28 => ?_) (fun h28 => ?_)
    · have h28b := h28
      try simp only [sxb] at h28
      obtain ⟨i, hi⟩ : ∃ i, (hereL ds (r : Nat))[k]? = some i := ⟨_, List.getElem?_eq_getElem (by omega)⟩
      have hi2 := nats_get hi
      have hil := (chosen_mem (List.mem_of_getElem? hi)).1
      obtain ⟨d, hd⟩ : ∃ d, ds[i]? = some d := ⟨_, List.getElem?_eq_getElem (by omega)⟩
      refine cj_skip (ej_th (cj_seq (cj_block (cj_seq ?_))))
      refine cj_regionG (gj_step (y_ixRm (m := (hereL ds (r : Nat)).length) (xs := natsI (hereL ds (r : Nat))) (nats_len _).symm reads_sl Tryz.underlying23 Tryz.sizeOf3 rfl rfl ⟨by omega, by omega⟩) rfl rfl rfl (gj_step (y_ld0 (reads_sl) Tryz.isAgg3 rfl (hi2) rfl) rfl rfl rfl (gj_step (y_assign rfl) rfl rfl rfl (gj_nil ?_))))
      refine ej_th (cj_region ?_)
      refine oj_step (y_move rfl) rfl rfl rfl ?_
      refine oj_step (y_move rfl) rfl rfl rfl ?_
      refine oj_step (y_move rfl) rfl rfl rfl ?_
      refine oj_step (y_ixR (reads_sl) Tryz.underlying73 Tryz.sizeOf122 rfl rfl (⟨by omega, by omega⟩)) rfl rfl rfl ?_
      refine oj_step (y_faE fa122_1 rfl) rfl rfl rfl ?_
      refine oj_step (y_ld1 (reads_sl) Tryz.isAgg3 rfl (hd) rfl) rfl rfl rfl ?_
      refine oj_buildSlice (cs := [.int .i64 d.amount]) [.int .i64 0] Tryz.underlying23 Tryz.sizeOf3 Tryz.zeroValue3 rfl rfl (by kernel_rfl) (by kernel_rfl) rfl (fun b37 => ?_)
      refine oj_append  el23 (fun _ => rfl) enInt_one rfl rfl rfl (reads_lit (sz := 1) [d.amount] (fun _ => rfl) rfl) (by unfold maxLen; simp only [List.length_append, List.length_cons, List.length_nil]; omega) (by simp only [List.length_append, List.length_cons, List.length_nil]; omega) rfl (fun A38 c38 => ?_)
      refine oj_step (y_assign rfl) rfl rfl rfl ?_
      refine oj_nil ?_
      refine ej_blk (ej_th ?_)
      refine cj_regionG (gj_step (y_add rfl rfl (by omega)) rfl rfl rfl (gj_step (y_move rfl) rfl rfl rfl (gj_nil ?_)))
      exact ej_nx (k + 1, A38, c38, xs ++ [d.amount]) (by simp only; omega) ⟨by first | omega | (simp only; omega), by rw [hxs, List.take_add_one, own_get hi hd]; rfl, by simp only [List.length_append, List.length_cons, List.length_nil]; omega⟩ ⟨rfl, rfl, rfl, rfl, rfl, rfl, rfl, rfl, rfl, rfl, rfl, trivial⟩
    · have h28b := h28
      try simp only [sxb] at h28
      refine cj_exit (ej_then_exit (ej_then_exit (ej_blk_hit (ej_th (cj_seq ?_)))))
      have hke : k = (hereL ds (r : Nat)).length := by omega
      subst hke
      rw [List.take_of_length_le (by rw [own_len]; exact Nat.le_refl _)] at hxs
      have hxn : ∀ x ∈ xs, 0 ≤ x := by rw [hxs]; exact own_nn hok _
      have hxm : ∀ x ∈ xs, x ≤ 67108864 := by rw [hxs]; exact own_le (by decide) (fun d hd => (hdb d hd).2.2)
      have hxs2 : sumI xs ≤ 4611686018427387904 := by have h9 := sumI_le_mul hxm; omega
      refine cj_frzS (O' := [ow 3 1 enInt (some ⟨b17, 0, none⟩) ds.length (paid)]) (ow 3 1 enInt A1 c1 xs) (sl (ow 3 1 enInt A1 c1 xs).fp 1 enInt A1 xs) (fun w hp => owSl (hp.own _ (List.mem_cons_self ..)).1 enInt_len (by unfold maxLen; omega) (fun _ h => h)) (fun b hb => .inl hb) ?_
      refine cj_regionG ?_
      refine gj_step (y_move rfl) rfl rfl rfl (?_)
      refine gj_step (y_call Tryz.call57 rfl (fun w hp => k_sum xs A1 c1 w hp.rd hxn hxs2)) rfl rfl rfl ?_
      refine gj_step (y_assign rfl) rfl rfl rfl (?_)
      refine gj_nil ?_
      refine ej_th (cj_seq (cj_seq ?_))
      refine cj_regionG (gj_step (y_move rfl) rfl rfl rfl (gj_step (y_eql rfl rfl) rfl rfl rfl (gj_nil ?_)))
      refine ej_th ?_
      refine cj_cond rfl (fun h43 => ?_) (fun h43 => ?_)
      · have h43b := h43
        try simp only [sxb] at h43
        have hz : sumI (ownL ds (r : Nat)) = 0 := by rw [← hxs]; simpa using h43b
        have he2 : rankS ds (paid, lf) (r : Nat) = (paid, lf) := by unfold rankS; rw [if_pos hz]
        have hsi2 : SpInv ds ((r + 1 : Nat) : Int) left (paid, lf) := by have h9 := hsi.step hok; rw [he2] at h9; exact h9
        refine cj_exit (ej_then_exit (ej_blk_hit (ej_th ?_)))
        refine cj_regionG (gj_step (y_add rfl rfl (by omega)) rfl rfl rfl (gj_step (y_move rfl) rfl rfl rfl (gj_nil ?_)))
        rw [show ((r : Nat) : Int) + 1 = ((r + 1 : Nat) : Int) by omega]
        exact ej_nx (r + 1, paid, lf) (by first | omega | (simp only; omega)) ⟨by first | omega | (simp only; omega), hsi2, by rw [spF_step (by omega), he2] at hsp; exact hsp⟩ ⟨rfl, rfl, rfl, rfl, rfl, rfl, trivial⟩
      · have h43b := h43
        try simp only [sxb] at h43
        have hz : ¬ sumI (ownL ds (r : Nat)) = 0 := by rw [← hxs]; simpa using h43b
        refine cj_skip (ej_th ?_)
        refine cj_cuti (X := Option Addr × Nat × (Nat → Prop) × List Int) [(1, _), (18, _), (0, _), (4, _), (5, _), (6, _), (8, _), (12, _)] ⟨rfl, rfl, rfl, rfl, rfl, rfl, rfl, rfl, trivial⟩ (fun ⟨A9, c9, fp9, ys⟩ => ys = gotL ds (r : Nat) lf) (fun ⟨A9, c9, fp9, ys⟩ => [(9, .slice A9 ys.length c9)]) (fun ⟨A9, c9, fp9, ys⟩ => [ow 3 1 enInt (some ⟨b17, 0, none⟩) ds.length (paid)]) (fun ⟨A9, c9, fp9, ys⟩ => [sl fp9 1 enInt A9 ys, sl fp24 1 enInt A24 (natsI (hereL ds (r : Nat))), sl (fun b => b < w.heap.size) 2 encDu A ds]) ?_ ?_
        · refine cj_seq ?_
          refine cj_regionG (gj_step (y_move rfl) rfl rfl rfl (gj_step (y_move rfl) rfl rfl rfl (gj_step (y_lss rfl rfl) rfl rfl rfl (gj_nil ?_))))
          refine ej_th ?_
          refine cj_cond rfl (fun h46 => ?_) (fun h46 => ?_)
          · have h46b := h46
            try simp only [sxb] at h46
            refine cj_region ?_
            refine oj_step (y_move rfl) rfl rfl rfl ?_
            refine oj_step (y_move rfl) rfl rfl rfl ?_
            refine oj_callS (fun A c => .slice A (shareL xs lf).length c) 1 enInt (shareL xs lf) Tryz.call28 rfl (fun w hp => k_share xs A1 c1 lf w hp.rd (by omega) (fun x hx => ⟨hxn x hx, hxm x hx⟩) (by have h9 := sumI_nonneg hxn; simp at h43; omega) ⟨by omega, by omega⟩) rfl (fun A49 c49 fp49 hfp49 => ?_)
            refine oj_step (y_assign rfl) rfl rfl rfl ?_
            refine oj_nil ?_
            exact ej_ct (A49, c49, fp49, shareL xs lf) (by unfold gotL; rw [← hxs, if_pos (by omega)]) ⟨rfl, rfl, rfl, rfl, rfl, rfl, rfl, rfl, rfl, trivial⟩
          · have h46b := h46
            try simp only [sxb] at h46
            refine cj_skip ?_
            exact ej_ct (A1, c1, (ow 3 1 enInt A1 c1 xs).fp, xs) (by unfold gotL; rw [← hxs, if_neg (by omega)]) ⟨rfl, rfl, rfl, rfl, rfl, rfl, rfl, rfl, rfl, trivial⟩
        · rintro ⟨A9, c9, fp9, ys⟩ hys
          dsimp only [List.cons_append, List.nil_append]
          have hyl : ys.length = (hereL ds (r : Nat)).length := by rw [hys]; exact got_len hok hsi.left hz
          refine cj_seq (cj_seq ?_)
          refine cj_regionG (gj_step (y_move rfl) rfl rfl rfl (gj_step (y_lenA Tryz.underlying23 rfl) rfl rfl rfl (gj_step (y_move rfl) rfl rfl rfl (gj_nil ?_))))
          refine ej_th (cj_block ?_)
          refine cj_lpi (X := Nat × List Int) [(9, _), (1, _), (18, _), (0, _), (4, _), (5, _), (6, _), (12, _), (50, _), (51, _)] (fun ⟨k, pd⟩ => k ≤ (hereL ds (r : Nat)).length ∧ pd = putL paid ((hereL ds (r : Nat)).take k) (ys.take k) ∧ pd.length = ds.length) (fun ⟨k, pd⟩ => [(52, .int .i64 (k : Nat))]) (fun ⟨k, pd⟩ => [ow 3 1 enInt (some ⟨b17, 0, none⟩) ds.length (pd)]) (fun ⟨k, pd⟩ => [sl fp9 1 enInt A9 ys, sl fp24 1 enInt A24 (natsI (hereL ds (r : Nat))), sl (fun b => b < w.heap.size) 2 encDu A ds]) (fun ⟨k, pd⟩ => (hereL ds (r : Nat)).length - k) (0, paid) (⟨Nat.zero_le _, rfl, hsi.len⟩) ⟨rfl, rfl, rfl, rfl, rfl, rfl, rfl, rfl, rfl, rfl, rfl, trivial⟩ ?_
          rintro ⟨k, pd⟩ ⟨hk2, hpd, hpl⟩
          dsimp only [List.cons_append, List.nil_append]
          refine cj_seq ?_
          refine cj_regionG (gj_step (y_lss rfl rfl) rfl rfl rfl (gj_nil ?_))
          refine ej_th (cj_seq ?_)
          refine cj_cond rfl (fun h53 => ?_) (fun h53 => ?_)
          · have h53b := h53
            try simp only [sxb] at h53
            obtain ⟨i, hi⟩ : ∃ i, (hereL ds (r : Nat))[k]? = some i := ⟨_, List.getElem?_eq_getElem (by omega)⟩
            have hi2 := nats_get hi
            have hil := (chosen_mem (List.mem_of_getElem? hi)).1
            obtain ⟨v, hv⟩ : ∃ v, ys[k]? = some v := ⟨_, List.getElem?_eq_getElem (by omega)⟩
            refine cj_skip (ej_th (cj_seq (cj_block (cj_seq ?_))))
            refine cj_regionG (gj_step (y_move rfl) rfl rfl rfl (gj_step (y_ixRm (m := (hereL ds (r : Nat)).length) (xs := natsI (hereL ds (r : Nat))) (nats_len _).symm reads_sl Tryz.underlying23 Tryz.sizeOf3 rfl rfl ⟨by omega, by omega⟩) rfl rfl rfl (gj_step (y_ld0 (reads_sl) Tryz.isAgg3 rfl (hi2) rfl) rfl rfl rfl (gj_step (y_assign rfl) rfl rfl rfl (gj_step (y_assign rfl) rfl rfl rfl (gj_nil ?_))))))
            refine ej_th (cj_region ?_)
            refine oj_step (y_move rfl) rfl rfl rfl ?_
            refine oj_step (y_move rfl) rfl rfl rfl ?_
            refine oj_step (y_move rfl) rfl rfl rfl ?_
            refine oj_step (y_move rfl) rfl rfl rfl ?_
            refine oj_step (y_ixR (reads_sl) Tryz.underlying23 Tryz.sizeOf3 rfl rfl (⟨by omega, by omega⟩)) rfl rfl rfl ?_
            refine oj_step (y_ld0 (reads_sl) Tryz.isAgg3 rfl (hv) rfl) rfl rfl rfl ?_
            refine oj_step (y_ixRm (m := ds.length) (xs := pd) hpl.symm (reads_ow enInt_len) Tryz.underlying23 Tryz.sizeOf3 rfl rfl ⟨by omega, by omega⟩) rfl rfl rfl ?_
            refine oj_storeE (i := i) (u := v) rfl rfl rfl rfl Tryz.sizeOf3 (fun _ => rfl) (by rw [hpl]; omega) ?_
            refine oj_nil ?_
            refine ej_blk (ej_th ?_)
            refine cj_regionG (gj_step (y_add rfl rfl (by omega)) rfl rfl rfl (gj_step (y_move rfl) rfl rfl rfl (gj_nil ?_)))
            exact ej_nx (k + 1, pd.set i v) (by simp only; omega) ⟨by first | omega | (simp only; omega), by rw [hpd, List.take_add_one, hi, List.take_add_one, hv, Option.toList_some, Option.toList_some, putL_snoc _ _ _ _ _ (by rw [List.length_take, List.length_take, hyl])], by rw [List.length_set, hpl]⟩ ⟨rfl, rfl, rfl, rfl, rfl, rfl, rfl, rfl, rfl, rfl, rfl, trivial⟩
          · have h53b := h53
            try simp only [sxb] at h53
            have hk3 : k = (hereL ds (r : Nat)).length := by omega
            subst hk3
            rw [List.take_length, List.take_of_length_le (by omega)] at hpd
            have he2 : rankS ds (paid, lf) (r : Nat) = (pd, lf - min lf (sumI xs)) := by unfold rankS; rw [if_neg hz, ← hxs, hpd, hys]
            have hsi2 : SpInv ds ((r + 1 : Nat) : Int) left (pd, lf - min lf (sumI xs)) := by have h9 := hsi.step hok; rw [he2] at h9; exact h9
            have hx0 := sumI_nonneg hxn
            refine cj_exit (ej_then_exit (ej_then_exit (ej_blk_hit (ej_th ?_))))
            refine cj_regionG (gj_step (y_move rfl) rfl rfl rfl (gj_step (y_move rfl) rfl rfl rfl (gj_step (y_move rfl) rfl rfl rfl (gj_step (y_min rfl rfl) rfl rfl rfl (gj_step (y_sub rfl rfl (by omega)) rfl rfl rfl (gj_step (y_assign rfl) rfl rfl rfl (gj_nil ?_)))))))
            refine ej_blk (ej_th ?_)
            refine cj_regionG (gj_step (y_add rfl rfl (by omega)) rfl rfl rfl (gj_step (y_move rfl) rfl rfl rfl (gj_nil ?_)))
            rw [show ((r : Nat) : Int) + 1 = ((r + 1 : Nat) : Int) by omega]
            exact ej_nx (r + 1, pd, lf - min lf (sumI xs)) (by first | omega | (simp only; omega)) ⟨by first | omega | (simp only; omega), hsi2, by rw [spF_step (by omega), he2] at hsp; exact hsp⟩ ⟨rfl, rfl, rfl, rfl, rfl, rfl, trivial⟩
  · have h19b := h19
    try simp only [sxb] at h19
    refine cj_exit (ej_then_exit (ej_then_exit (ej_blk_hit (ej_th (cj_seq ?_)))))
    refine cj_regionG (gj_step (y_move rfl) rfl rfl rfl (gj_step (y_move rfl) rfl rfl rfl (gj_step (y_assign rfl) rfl rfl rfl (gj_step (y_assign rfl) rfl rfl rfl (gj_nil ?_)))))
    refine ej_th (cj_ret ?_)
    have h10 : r = 10 := by omega
    subst h10
    rw [show 10 - 10 = 0 from rfl, spreadF] at hsp
    have hpl : paid.length = ds.length := hsi.len
    rw [← hpl, ← hsp]
    exact ej_ret2 rfl Tryz.results29 rfl rfl (fun w' hp => ⟨_, _, rfl, hp.below, hp.res enInt_len (show paid.length ≤ maxLen by unfold maxLen; omega)⟩)

end Go.Proofs.YtppfniekcgnmjaaGreat.Pu
namespace Go.Proofs.YtppfniekcgnmjaaGreat.Pu
open Go.Sx Go.RowKit
set_option maxRecDepth 20000
theorem el26 : ElemIs Tryz.prog 26 32 3 40 := ⟨⟨_, (.agg #[.int .i64 0, .slice none 0 0, .int .i64 0]), Tryz.underlying26, Tryz.type32, by kernel_rfl, by kernel_rfl, by kernel_rfl, by kernel_rfl, by decide⟩⟩
theorem fa75_0 : FieldIs Tryz.prog 75 0 0 1 false := ⟨⟨_, _, Tryz.underlying75, rfl, rfl, Tryz.sizeOf9, Tryz.isAgg9, by decide⟩⟩
theorem fa75_1 : FieldIs Tryz.prog 75 1 1 1 false := ⟨⟨_, _, Tryz.underlying75, rfl, rfl, Tryz.sizeOf3, Tryz.isAgg3, by decide⟩⟩
theorem fa75_2 : FieldIs Tryz.prog 75 2 2 1 false := ⟨⟨_, _, Tryz.underlying75, rfl, rfl, Tryz.sizeOf73, Tryz.isAgg73, by decide⟩⟩
theorem st32 : StructIs Tryz.prog 32 [(0, 1), (1, 1), (2, 1)] [.int .i64 0, .slice none 0 0, .int .i64 0] := ⟨⟨_, Tryz.underlying32, fun w => by simp [Tryz.sizeOf23, Tryz.sizeOf3], Tryz.zeroValue32⟩⟩
end Go.Proofs.YtppfniekcgnmjaaGreat.Pu
namespace Go.Proofs.YtppfniekcgnmjaaGreat.Pu
open Go.Sx Go.RowKit Um
set_option maxRecDepth 20000
theorem k_IndexP (l : List PartV) (A : Option Addr) (c : Nat) (f : Nat) (fi ca : Array Value) (q : PartV → Bool) (w : World) (hl : Rd w 3 encPa A l) (hen : ∀ args w, (callFunc f args).run Tryz.prog w = .ok (.enter f args) w) (hpp : ∀ x ∈ l, ∀ w1, Grow w w1 → Calls Tryz.prog f (fi ++ [.agg #[.string x.name, .int .i64 x.value, .slice x.A x.dues.length x.c]].toArray ++ ca) w1 (fun e w2 => e = .returned (.bool (q x)) ∧ Grow w1 w2)) : Calls Tryz.prog 55 #[.slice A l.length c, .func (.func f) fi ca] w (fun e w' => e = .returned (.int .i64 (fidx q l 0)) ∧ Grow w w') := by
  have hlen := hl.len
  refine enter_pure (args := [.slice A l.length c, .func (.func f) fi ca]) [sl (fun b => b < w.heap.size) 3 encPa A l] Tryz.func55 rfl (by rw [Tryz.ntmps55]; simp) (fun g hg => by simp at hg; subst hg; exact ⟨hl, fun _ h => h⟩) ?_
  refine cj_seq ?_
  refine cj_regionG (gj_step (y_assign rfl) rfl rfl rfl (gj_nil ?_))
  refine ej_th (cj_seq (cj_seq ?_))
  refine cj_regionG (gj_step (y_move rfl) rfl rfl rfl (gj_step (y_lenA Tryz.underlying22 rfl) rfl rfl rfl (gj_step (y_move rfl) rfl rfl rfl (gj_nil ?_))))
  refine ej_th (cj_block ?_)
  refine cj_lpic (X := Nat) [(0, _), (1, _), (7, _)] (fun k => k ≤ l.length ∧ fidx q (l.drop k) k = fidx q l 0) (fun k => [(8, .int .i64 (k : Nat))]) (fun k => l.length - k) 0 (⟨Nat.zero_le _, rfl⟩) ⟨rfl, rfl, rfl, rfl, trivial⟩ ?_
  rintro k ⟨hk, hsk⟩
  dsimp only [List.cons_append, List.nil_append]
  refine cj_seq ?_
  refine cj_regionG (gj_step (y_lss rfl rfl) rfl rfl rfl (gj_nil ?_))
  refine ej_th (cj_seq ?_)
  refine cj_cond rfl (fun h9 => ?_) (fun h9 => ?_)
  · have h9b := h9
    try simp only [sxb] at h9
    obtain ⟨x, hx⟩ : ∃ x, l[k]? = some x := ⟨_, List.getElem?_eq_getElem (by omega)⟩
    rw [fidx_drop q l k x hx] at hsk
    refine cj_skip (ej_th (cj_seq (cj_block (cj_seq ?_))))
    refine cj_regionG (gj_step (y_move rfl) rfl rfl rfl (gj_step (y_assign rfl) rfl rfl rfl (gj_nil ?_)))
    refine ej_th (cj_seq ?_)
    refine cj_regionG ?_
    refine gj_step (y_move rfl) rfl rfl rfl (gj_step (y_move rfl) rfl rfl rfl (gj_step (y_move rfl) rfl rfl rfl (gj_step (y_ixR (reads_sl) Tryz.underlying22 Tryz.sizeOf75 rfl rfl (⟨by omega, by omega⟩)) rfl rfl rfl (gj_step (y_ldW (reads_sl) Tryz.isAgg75 Tryz.sizeOf75 rfl (hx) (fun _ => rfl)) rfl rfl rfl (?_)))))
    refine gj_step (y_callV hen rfl rfl (fun w1 hp => hpp x (List.mem_of_getElem? hx) w1 hp.below)) rfl rfl rfl ?_
    refine gj_nil ?_
    refine ej_th ?_
    refine cj_cond rfl (fun h16 => ?_) (fun h16 => ?_)
    · have h16b := h16
      try simp only [sxb] at h16
      refine cj_seq ?_
      refine cj_regionG (gj_step (y_move rfl) rfl rfl rfl (gj_step (y_assign rfl) rfl rfl rfl (gj_nil ?_)))
      refine ej_th (cj_ret (ej_blk_ret (ej_then_ret (ej_then_ret (ej_blk_ret (ej_then_ret ?_))))))
      refine ej_ret1 rfl Tryz.results55 rfl (fun w' hp => ⟨?_, hp.below⟩)
      rw [← hsk, if_pos h16b]
    · have h16b := h16
      try simp only [sxb] at h16
      refine cj_skip (ej_blk (ej_th ?_))
      refine cj_regionG (gj_step (y_add rfl rfl (by omega)) rfl rfl rfl (gj_step (y_move rfl) rfl rfl rfl (gj_nil ?_)))
      exact ej_nx (k + 1) (by omega) ⟨by omega, by rw [← hsk, if_neg (by rw [h16b]; simp)]⟩ ⟨rfl, rfl, rfl, rfl, trivial⟩
  · have h9b := h9
    try simp only [sxb] at h9
    refine cj_exit (ej_then_exit (ej_then_exit (ej_blk_hit (ej_th (cj_seq ?_)))))
    refine cj_regionG (gj_step (y_assign rfl) rfl rfl rfl (gj_nil ?_))
    refine ej_th (cj_ret ?_)
    refine ej_ret1 rfl Tryz.results55 rfl (fun w' hp => ⟨?_, hp.below⟩)
    rw [← hsk, List.drop_of_length_le (by omega)]; rfl

theorem k_ContP (l : List PartV) (A : Option Addr) (c : Nat) (f : Nat) (fi ca : Array Value) (q : PartV → Bool) (w : World) (hl : Rd w 3 encPa A l) (hen : ∀ args w, (callFunc f args).run Tryz.prog w = .ok (.enter f args) w) (hpp : ∀ x ∈ l, ∀ w1, Grow w w1 → Calls Tryz.prog f (fi ++ [.agg #[.string x.name, .int .i64 x.value, .slice x.A x.dues.length x.c]].toArray ++ ca) w1 (fun e w2 => e = .returned (.bool (q x)) ∧ Grow w1 w2)) : Calls Tryz.prog 23 #[.slice A l.length c, .func (.func f) fi ca] w (fun e w' => e = .returned (.bool (l.any q)) ∧ Grow w w') := by
  refine enter_pure (args := [.slice A l.length c, .func (.func f) fi ca]) [sl (fun b => b < w.heap.size) 3 encPa A l] Tryz.func23 rfl (by rw [Tryz.ntmps23]; simp) (fun g hg => by simp at hg; subst hg; exact ⟨hl, fun _ h => h⟩) ?_
  refine cj_seq ?_
  refine cj_regionG (gj_step (y_assign rfl) rfl rfl rfl (gj_nil ?_))
  refine ej_th (cj_seq ?_)
  refine cj_regionG ?_
  refine gj_step (y_move rfl) rfl rfl rfl (gj_step (y_move rfl) rfl rfl rfl (?_))
  refine gj_step (y_call Tryz.call55 rfl (fun w hp => k_IndexP l A c f fi ca q w hp.rd hen (fun x hx w1 hg => hpp x hx w1 (grow_trans hp.below hg)))) rfl rfl rfl ?_
  refine gj_step (y_geq rfl rfl) rfl rfl rfl (gj_step (y_assign rfl) rfl rfl rfl (?_))
  refine gj_nil ?_
  refine ej_th (cj_ret ?_)
  refine ej_ret1 rfl Tryz.results23 rfl (fun w' hp => ⟨?_, hp.below⟩)
  rw [fidx_any q l]

theorem k_po1 (x p : PartV) (b : Nat) (w : World) (hb : (ownB b (cellsB 75 [.string p.name, .int .i64 p.value, .slice p.A p.dues.length p.c])).P w) : Calls Tryz.prog 24 #[.agg #[.string x.name, .int .i64 x.value, .slice x.A x.dues.length x.c], .pointer (some ⟨b, 0, none⟩)] w (fun e w' => e = .returned (.bool (x.name == p.name)) ∧ Grow w w') := by
  refine enter_pure (args := [.agg #[.string x.name, .int .i64 x.value, .slice x.A x.dues.length x.c], .pointer (some ⟨b, 0, none⟩)]) [ownB b (cellsB 75 [.string p.name, .int .i64 p.value, .slice p.A p.dues.length p.c])] Tryz.func24 rfl (by rw [Tryz.ntmps24]; simp) (fun g hg => by
    rw [List.mem_singleton.1 hg]
    exact ⟨hb, fun i hi => by have hi : i = b := hi; subst hi; exact (Array.getElem?_eq_some_iff.1 hb).1⟩) ?_
  refine cj_seq (cj_region ?_)
  refine oj_box rfl rfl rfl (fun b2 => ?_)
  refine oj_step (y_assign rfl) rfl rfl rfl ?_
  refine oj_nil ?_
  refine ej_th (cj_seq ?_)
  refine cj_regionG (gj_step (y_fa0 fa75_0 rfl) rfl rfl rfl (gj_step (y_load1 Tryz.isAgg9 rfl rfl) rfl rfl rfl (gj_step (y_fa0 fa75_0 rfl) rfl rfl rfl (gj_step (y_loadS1 Tryz.isAgg9 rfl rfl) rfl rfl rfl (gj_step (y_eqlS rfl rfl) rfl rfl rfl (gj_step (y_assign rfl) rfl rfl rfl (gj_nil ?_)))))))
  refine ej_th (cj_ret ?_)
  exact ej_ret1 rfl Tryz.results24 rfl (fun w' hp => ⟨rfl, hp.below⟩)

theorem k_po2 (x : PartV) (w : World) (hx : Rd w 2 encDu x.A x.dues) : Calls Tryz.prog 26 #[.agg #[.string x.name, .int .i64 x.value, .slice x.A x.dues.length x.c]] w (fun e w' => e = .returned (.bool (!(duesB x.dues))) ∧ Grow w w') := by
  refine enter_pure (args := [.agg #[.string x.name, .int .i64 x.value, .slice x.A x.dues.length x.c]]) [sl (fun b => b < w.heap.size) 2 encDu x.A x.dues] Tryz.func26 rfl (by rw [Tryz.ntmps26]; simp) (fun g hg => by simp at hg; subst hg; exact ⟨hx, fun _ h => h⟩) ?_
  refine cj_seq (cj_region ?_)
  refine oj_box rfl rfl rfl (fun b1 => ?_)
  refine oj_step (y_assign rfl) rfl rfl rfl ?_
  refine oj_nil ?_
  refine ej_th (cj_seq ?_)
  refine cj_regionG ?_
  refine gj_step (y_fa fa75_2 rfl) rfl rfl rfl (gj_step (y_load1 Tryz.isAgg73 rfl rfl) rfl rfl rfl (?_))
  refine gj_step (y_call Tryz.call27 rfl (fun w hp => k_dues x.dues x.A x.c w hp.rd)) rfl rfl rfl ?_
  refine gj_step (y_not rfl) rfl rfl rfl (gj_step (y_assign rfl) rfl rfl rfl (?_))
  refine gj_nil ?_
  refine ej_th (cj_ret ?_)
  exact ej_ret1 rfl Tryz.results26 rfl (fun w' hp => ⟨rfl, hp.below⟩)

set_option maxHeartbeats 1000000 in
theorem k_Portions (price : Int) (ps : List PartV) (A : Option Addr) (c : Nat) (w : World) (hl : Rd w 3 encPa A ps) (hcap : ps.length ≤ c) (hgp : ∀ p ∈ ps, GoodP w p) : Calls Tryz.prog 6 #[.int .i64 price, .slice A ps.length c] w (fun e w' => ∃ A c out, e = .returned (.tuple #[.slice A (out : List PorV).length c, .int .i64 (porE Pl.isW price ps)]) ∧ Grow w w' ∧ Res w w' 3 encPo A out ∧ (∀ r ∈ out, Res w w' 1 enInt r.A r.paid) ∧ out.map PorV.p = porL Pl.isW price ps) := by
  have hlen := hl.len
  refine enter_pure (args := [.int .i64 price, .slice A ps.length c]) [sl (fun b => b < w.heap.size) 3 encPa A ps] Tryz.func6 rfl (by rw [Tryz.ntmps6]; simp) (fun g hg => by simp at hg; subst hg; exact ⟨hl, fun _ h => h⟩) ?_
  refine cj_seq ?_
  refine cj_regionG (gj_step (y_assign rfl) rfl rfl rfl (gj_step (y_assign rfl) rfl rfl rfl (gj_nil ?_)))
  refine ej_th (cj_seq (cj_seq ?_))
  refine cj_regionG ?_
  refine gj_step (y_move rfl) rfl rfl rfl (?_)
  refine gj_step (y_call Tryz.call21 rfl (fun w hp => k_within _ _ _ w)) rfl rfl rfl ?_
  refine gj_step (y_not rfl) rfl rfl rfl (?_)
  refine gj_nil ?_
  refine ej_th ?_
  refine cj_cond rfl (fun h16 => ?_) (fun h16 => ?_)
  · have h16b := h16
    try simp only [sxb] at h16
    refine cj_seq ?_
    refine cj_regionG (gj_step (y_assign rfl) rfl rfl rfl (gj_step (y_assign rfl) rfl rfl rfl (gj_nil ?_)))
    refine ej_th (cj_ret (ej_then_ret ?_))
    have hE : porE Pl.isW price ps = 7 := by rw [porE, if_pos h16b]
    rw [hE]
    exact ej_ret2 rfl Tryz.results6 rfl rfl (fun w' hp => ⟨none, 0, [], rfl, hp.below, Res.nil, (fun r hr => by cases hr), by rw [porL_no (by rw [hE]; decide)]; rfl⟩)
  · have h16b := h16
    try simp only [sxb] at h16
    have hpr := btw_t (not_f h16b)
    refine cj_skip (ej_th (cj_seq (cj_seq ?_)))
    refine cj_regionG ?_
    refine gj_step (y_move rfl) rfl rfl rfl (gj_step (y_lenA Tryz.underlying22 rfl) rfl rfl rfl (?_))
    refine gj_step (y_call Tryz.call21 rfl (fun w hp => k_within _ _ _ w)) rfl rfl rfl ?_
    refine gj_step (y_not rfl) rfl rfl rfl (?_)
    refine gj_nil ?_
    refine ej_th ?_
    refine cj_cond rfl (fun h20 => ?_) (fun h20 => ?_)
    · have h20b := h20
      try simp only [sxb] at h20
      refine cj_seq ?_
      refine cj_regionG (gj_step (y_assign rfl) rfl rfl rfl (gj_step (y_assign rfl) rfl rfl rfl (gj_nil ?_)))
      refine ej_th (cj_ret (ej_then_ret ?_))
      have hE : porE Pl.isW price ps = 72 := by rw [porE, if_neg (by rw [h16b]; simp), if_pos h20b]
      rw [hE]
      exact ej_ret2 rfl Tryz.results6 rfl rfl (fun w' hp => ⟨none, 0, [], rfl, hp.below, Res.nil, (fun r hr => by cases hr), by rw [porL_no (by rw [hE]; decide)]; rfl⟩)
    · have h20b := h20
      try simp only [sxb] at h20
      have hl8 := btw_t (not_f h20b)
      refine cj_skip (ej_th (cj_seq ?_))
      refine cj_regionG (gj_step (y_assign rfl) rfl rfl rfl (gj_nil ?_))
      refine ej_th (cj_seq (cj_seq ?_))
      refine cj_regionG (gj_step (y_move rfl) rfl rfl rfl (gj_step (y_lenA Tryz.underlying22 rfl) rfl rfl rfl (gj_step (y_move rfl) rfl rfl rfl (gj_nil ?_))))
      refine ej_th (cj_block ?_)
      refine cj_ownNil 3 1 enInt ?_
      refine cj_lpi (X := Nat × Option Addr × Nat × List Int) [(0, _), (1, _), (21, _), (22, _)] (fun ⟨k, A1, c1, vs⟩ => k ≤ ps.length ∧ vs = (valsL ps).take k ∧ vs.length = k ∧ namB Pl.isW ps k = true) (fun ⟨k, A1, c1, vs⟩ => [(6, .slice A1 vs.length c1), (23, .int .i64 (k : Nat))]) (fun ⟨k, A1, c1, vs⟩ => [ow 3 1 enInt A1 c1 vs]) (fun ⟨k, A1, c1, vs⟩ => [sl (fun b => b < w.heap.size) 3 encPa A ps]) (fun ⟨k, A1, c1, vs⟩ => ps.length - k) (0, none, 0, []) (⟨Nat.zero_le _, rfl, rfl, rfl⟩) ⟨rfl, rfl, rfl, rfl, rfl, rfl, trivial⟩ ?_
      rintro ⟨k, A1, c1, vs⟩ ⟨hk, hvs, hvl0, hnm⟩
      dsimp only [List.cons_append, List.nil_append]
      refine cj_seq ?_
      refine cj_regionG (gj_step (y_lss rfl rfl) rfl rfl rfl (gj_nil ?_))
      refine ej_th (cj_seq ?_)
      refine cj_cond rfl (fun h24 => ?_) (fun h24 => ?_)
      · have h24b := h24
        try simp only [sxb] at h24
        obtain ⟨p, hx⟩ : ∃ p, ps[k]? = some p := ⟨_, List.getElem?_eq_getElem (by omega)⟩
        refine cj_skip (ej_th (cj_seq (cj_block (cj_seq (cj_region ?_)))))
        refine oj_step (y_move rfl) rfl rfl rfl ?_
        refine oj_step (y_ixR (reads_sl) Tryz.underlying22 Tryz.sizeOf75 rfl rfl (⟨by omega, by omega⟩)) rfl rfl rfl ?_
        refine oj_step (y_ldW (reads_sl) Tryz.isAgg75 Tryz.sizeOf75 rfl (hx) (fun _ => rfl)) rfl rfl rfl ?_
        refine oj_alloc Tryz.zeroValue75 rfl rfl (fun b8 => ?_)
        refine oj_step (y_assign rfl) rfl rfl rfl ?_
        refine oj_store rfl rfl rfl rfl Tryz.sizeOf75 rfl ?_
        refine oj_nil ?_
        refine ej_th (cj_seq (cj_region ?_))
        refine oj_step (y_move rfl) rfl rfl rfl ?_
        refine oj_step (y_fa fa75_1 rfl) rfl rfl rfl ?_
        refine oj_step (y_load1 Tryz.isAgg3 rfl rfl) rfl rfl rfl ?_
        refine oj_buildSlice (cs := [.int .i64 p.value]) [.int .i64 0] Tryz.underlying23 Tryz.sizeOf3 Tryz.zeroValue3 rfl rfl (by kernel_rfl) (by kernel_rfl) rfl (fun b31 => ?_)
        refine oj_append  el23 (fun _ => rfl) enInt_one rfl rfl rfl (reads_lit (sz := 1) [p.value] (fun _ => rfl) rfl) (by unfold maxLen; simp only [List.length_append, List.length_cons, List.length_nil]; omega) (by simp only [List.length_append, List.length_cons, List.length_nil]; omega) rfl (fun A32 c32 => ?_)
        refine oj_step (y_assign rfl) rfl rfl rfl ?_
        refine oj_nil ?_
        refine ej_th (cj_seq ?_)
        refine cj_regionG ?_
        refine gj_step (y_fa0 fa75_0 rfl) rfl rfl rfl (gj_step (y_load1 Tryz.isAgg9 rfl rfl) rfl rfl rfl (?_))
        refine gj_step (y_call Tryz.call22 rfl (fun w hp => Pl.k_IsWord p.name w (hgp p (List.mem_of_getElem? hx)).nm)) rfl rfl rfl ?_
        refine gj_step (y_not rfl) rfl rfl rfl (gj_step (y_move rfl) rfl rfl rfl (?_))
        refine gj_g 5 37 42 rfl rfl rfl rfl (fun hg37 => gj_yes rfl rfl rfl (y_move rfl) rfl rfl (gj_yes rfl rfl rfl (y_move rfl) rfl rfl (gj_yes rfl rfl rfl (y_sliceTo (xs := ps) k Tryz.underlying22 Tryz.sizeOf75 rfl rfl (by omega) (by omega)) rfl rfl (gj_yes rfl rfl rfl (y_makeFunc rfl rfl) rfl rfl (gj_yes rfl rfl rfl (y_call Tryz.call23 rfl (fun w hp => by
          have h := k_ContP (ps.take k) A c 24 #[] #[.pointer (some ⟨b8, 0, none⟩)] (fun o : PartV => o.name == p.name) w (Rd.takeL hp.rd k) Tryz.call24 (fun x hx w1 hg => k_po1 x p b8 w1 ((hp.grow hg).own1))
          exact h)) rfl rfl (gj_nil rfl)))))) ?_
        refine gj_step (y_or rfl rfl rfl) rfl rfl rfl (?_)
        refine gj_nil ?_
        refine ej_th ?_
        refine cj_cond rfl (fun h43 => ?_) (fun h43 => ?_)
        · have h43b := h43
          try simp only [sxb] at h43
          have hbad : namB Pl.isW ps ps.length = false := by
            rw [show ps.length = (k + 1) + (ps.length - (k + 1)) by omega]
            refine namB_no ?_ _
            rw [namB, hnm, hx]
            simp only [Bool.true_and]
            rw [Bool.or_eq_true] at h43b
            rcases h43b with h9 | h9
            · rw [not_t h9]; rfl
            · rw [h9]; simp
          refine cj_seq ?_
          refine cj_regionG (gj_step (y_assign rfl) rfl rfl rfl (gj_step (y_assign rfl) rfl rfl rfl (gj_nil ?_)))
          refine ej_th (cj_ret (ej_blk_ret (ej_then_ret (ej_then_ret (ej_blk_ret (ej_then_ret ?_))))))
          have hE : porE Pl.isW price ps = 72 := by rw [porE, if_neg (by rw [h16b]; simp), if_neg (by rw [h20b]; simp), if_pos (by rw [hbad]; rfl)]
          rw [hE]
          exact ej_ret2 rfl Tryz.results6 rfl rfl (fun w' hp => ⟨none, 0, [], rfl, hp.below, Res.nil, (fun r hr => by cases hr), by rw [porL_no (by rw [hE]; decide)]; rfl⟩)
        · have h43b := h43
          try simp only [sxb] at h43
          have hnm2 : namB Pl.isW ps (k + 1) = true := by
            rw [namB, hnm, hx]
            rw [Bool.or_eq_false_iff] at h43b
            simp only [Bool.true_and]
            rw [not_f h43b.1, h43b.2]; rfl
          refine cj_skip (ej_blk (ej_th ?_))
          refine cj_regionG (gj_step (y_add rfl rfl (by omega)) rfl rfl rfl (gj_step (y_move rfl) rfl rfl rfl (gj_nil ?_)))
          exact ej_nx (k + 1, A32, c32, vs ++ [p.value]) (by simp only; omega) ⟨by first | omega | (simp only; omega), by rw [hvs]; unfold valsL; rw [List.take_add_one, List.getElem?_map, hx]; rfl, by simp only [List.length_append, List.length_cons, List.length_nil]; omega, hnm2⟩ ⟨rfl, rfl, rfl, rfl, rfl, rfl, trivial⟩
      · have h24b := h24
        try simp only [sxb] at h24
        refine cj_exit (ej_then_exit (ej_then_exit (ej_blk_hit (ej_th (cj_seq (cj_seq ?_))))))
        have hke : k = ps.length := by omega
        subst hke
        have hvs2 : vs = valsL ps := by rw [hvs]; exact List.take_of_length_le (by simp [valsL])
        clear hvs
        have hvs := hvs2
        refine cj_regionG ?_
        refine gj_step (y_move rfl) rfl rfl rfl (?_)
        refine gj_step (y_call Tryz.call25 rfl (fun w hp => by
          have h := k_weights vs A1 c1 w (hp.rdO enInt_len (by unfold maxLen; omega))
          exact h)) rfl rfl rfl ?_
        refine gj_step (y_not rfl) rfl rfl rfl (?_)
        refine gj_nil ?_
        refine ej_th ?_
        refine cj_cond rfl (fun h47 => ?_) (fun h47 => ?_)
        · have h47b := h47
          try simp only [sxb] at h47
          have hw0 : weiB (valsL ps) = false := by rw [← hvs]; exact not_t h47b
          refine cj_seq ?_
          refine cj_regionG (gj_step (y_assign rfl) rfl rfl rfl (gj_step (y_assign rfl) rfl rfl rfl (gj_nil ?_)))
          refine ej_th (cj_ret (ej_then_ret ?_))
          have hE : porE Pl.isW price ps = 72 := by rw [porE, if_neg (by rw [h16b]; simp), if_neg (by rw [h20b]; simp), if_neg (by rw [hnm]; simp), if_pos (by rw [hw0]; rfl)]
          rw [hE]
          exact ej_ret2 rfl Tryz.results6 rfl rfl (fun w' hp => ⟨none, 0, [], rfl, hp.below, Res.nil, (fun r hr => by cases hr), by rw [porL_no (by rw [hE]; decide)]; rfl⟩)
        · have h47b := h47
          try simp only [sxb] at h47
          have hwt := wei_t (not_f h47b)
          have hw1 : weiB (valsL ps) = true := by rw [← hvs]; exact not_f h47b
          refine cj_skip (ej_th (cj_seq (cj_seq ?_)))
          refine cj_regionG ?_
          refine gj_step (y_move rfl) rfl rfl rfl (?_)
          refine gj_step (y_call Tryz.call23 rfl (fun w hp => k_ContP ps A c 26 #[] #[] (fun x => !(duesB x.dues)) w hp.rd Tryz.call26 (fun x hx w1 hg => k_po2 x w1 ((hgp x hx).rd.mono (grow_trans hp.below hg))))) rfl rfl rfl ?_
          refine gj_nil ?_
          refine ej_th ?_
          refine cj_cond rfl (fun h49 => ?_) (fun h49 => ?_)
          · have h49b := h49
            try simp only [sxb] at h49
            have hd0 : (ps.all fun p => duesB p.dues) = false := by
              have h9 := any_not (fun x : PartV => duesB x.dues) ps
              rw [h49b] at h9
              exact not_t h9.symm
            refine cj_seq ?_
            refine cj_regionG (gj_step (y_assign rfl) rfl rfl rfl (gj_step (y_assign rfl) rfl rfl rfl (gj_nil ?_)))
            refine ej_th (cj_ret (ej_then_ret ?_))
            have hE : porE Pl.isW price ps = 71 := by rw [porE, if_neg (by rw [h16b]; simp), if_neg (by rw [h20b]; simp), if_neg (by rw [hnm]; simp), if_neg (by rw [hw1]; simp), if_pos (by rw [hd0]; rfl)]
            rw [hE]
            exact ej_ret2 rfl Tryz.results6 rfl rfl (fun w' hp => ⟨none, 0, [], rfl, hp.below, Res.nil, (fun r hr => by cases hr), by rw [porL_no (by rw [hE]; decide)]; rfl⟩)
          · have h49b := h49
            try simp only [sxb] at h49
            have hd1 : (ps.all fun p => duesB p.dues) = true := by
              have h9 := any_not (fun x : PartV => duesB x.dues) ps
              rw [h49b] at h9
              exact not_f h9.symm
            have hdu : ∀ p ∈ ps, duesB p.dues = true := fun p hp => all_mem hd1 hp
            have hvn : ∀ x ∈ valsL ps, 0 ≤ x := fun x hx => (hwt.2.2.1 x (by rw [hvs]; exact hx)).1
            have hwp : 0 < sumI (valsL ps) := by rw [← hvs]; exact hwt.2.2.2.1
            have hsl := share_len hvn hpr.1 hwp
            have hss := share_sum hvn hpr.1 hwp
            have hsn := share_nn hvn hpr.1 hwp
            have hvl : (valsL ps).length = ps.length := List.length_map ..
            refine cj_skip (ej_th (cj_seq ?_))
            refine cj_regionG (gj_step (y_assign rfl) rfl rfl rfl (gj_nil ?_))
            refine ej_th (cj_seq (cj_seq (cj_region ?_)))
            refine oj_step (y_move rfl) rfl rfl rfl ?_
            refine oj_step (y_move rfl) rfl rfl rfl ?_
            refine oj_callS (fun A c => .slice A ((shareL (valsL ps) price)).length c) 1 enInt ((shareL (valsL ps) price)) Tryz.call28 rfl (fun w hp => by
              have h := k_share vs A1 c1 price w (hp.rdO enInt_len (by unfold maxLen; omega)) hwt.2.1 hwt.2.2.1 hwt.2.2.2.1 ⟨hpr.1, by omega⟩
              have h9 : shareL vs price = shareL (valsL ps) price := by rw [hvs]
              rw [h9] at h
              exact h) rfl (fun A52 c52 fp52 hfp52 => ?_)
            refine oj_step (y_lenA Tryz.underlying23 rfl) rfl rfl rfl ?_
            refine oj_step (y_move rfl) rfl rfl rfl ?_
            refine oj_nil ?_
            refine ej_th (cj_block ?_)
            refine cj_ownNil 32 3 encPo ?_
            refine cj_addS (rowsP (fun _ => False) []) (fun w hp => ⟨fun z hz => (by cases hz), fun i hi => hi.elim⟩) ?_
            refine cj_lpi (X := Nat × (Option Addr × Nat × List PorV) × (Nat → Prop)) [(1, _), (52, _), (53, _)] (fun ⟨k, ⟨A9, c9, out⟩, fp⟩ => k ≤ (shareL (valsL ps) price).length ∧ out.length = k ∧ out.map PorV.p = (portsL price ps).take k ∧ ∀ b, fp b → w.heap.size ≤ b) (fun ⟨k, ⟨A9, c9, out⟩, fp⟩ => [(9, .slice A9 out.length c9), (54, .int .i64 (k : Nat))]) (fun ⟨k, ⟨A9, c9, out⟩, fp⟩ => [ow 32 3 encPo A9 c9 out]) (fun ⟨k, ⟨A9, c9, out⟩, fp⟩ => [rowsP fp out, sl fp52 1 enInt A52 (shareL (valsL ps) price), sl (fun b => b < w.heap.size) 3 encPa A ps]) (fun ⟨k, ⟨A9, c9, out⟩, fp⟩ => (shareL (valsL ps) price).length - k) (0, (none, 0, []), fun _ => False) (⟨Nat.zero_le _, rfl, rfl, fun b hb => hb.elim⟩) ⟨rfl, rfl, rfl, rfl, rfl, trivial⟩ ?_
            rintro ⟨k, ⟨A9, c9, out⟩, fp⟩ ⟨hk, hol, hom, hfp⟩
            dsimp only [List.cons_append, List.nil_append]
            refine cj_seq ?_
            refine cj_regionG (gj_step (y_lss rfl rfl) rfl rfl rfl (gj_nil ?_))
            refine ej_th (cj_seq ?_)
            refine cj_cond rfl (fun h55 => ?_) (fun h55 => ?_)
            · have h55b := h55
              try simp only [sxb] at h55
              obtain ⟨n, hn⟩ : ∃ n, (shareL (valsL ps) price)[k]? = some n := ⟨_, List.getElem?_eq_getElem (by omega)⟩
              obtain ⟨p, hx2⟩ : ∃ p, ps[k]? = some p := ⟨_, List.getElem?_eq_getElem (by omega)⟩
              have hpm := List.mem_of_getElem? hx2
              have hnn : ∀ x ∈ (shareL (valsL ps) price), 0 ≤ x := fun x hx => by
                obtain ⟨j, hj, rfl⟩ := List.mem_iff_getElem.1 hx
                have h7 := hsn j
                rwa [gd_lt hj] at h7
              have hnb : 0 ≤ n ∧ n ≤ 67108864 := ⟨hnn n (List.mem_of_getElem? hn), by have h9 := sumI_mem_le hnn n (List.mem_of_getElem? hn); omega⟩
              refine cj_skip (ej_th (cj_seq (cj_block (cj_seq ?_))))
              refine cj_regionG (gj_step (y_move rfl) rfl rfl rfl (gj_step (y_ixR (reads_sl (xs := (shareL (valsL ps) price))) Tryz.underlying23 Tryz.sizeOf3 rfl rfl ⟨by omega, by omega⟩) rfl rfl rfl (gj_step (y_ld0 (reads_sl) Tryz.isAgg3 rfl (hn) rfl) rfl rfl rfl (gj_step (y_assign rfl) rfl rfl rfl (gj_step (y_assign rfl) rfl rfl rfl (gj_nil ?_))))))
              refine ej_th (cj_seq (cj_region ?_))
              refine oj_step (y_move rfl) rfl rfl rfl ?_
              refine oj_step (y_move rfl) rfl rfl rfl ?_
              refine oj_step (y_ixR (reads_sl) Tryz.underlying22 Tryz.sizeOf75 rfl rfl (⟨by omega, by omega⟩)) rfl rfl rfl ?_
              refine oj_step (y_faE fa75_2 rfl) rfl rfl rfl ?_
              refine oj_step (y_ld1 (reads_sl) Tryz.isAgg73 rfl (hx2) rfl) rfl rfl rfl ?_
              refine oj_step (y_move rfl) rfl rfl rfl ?_
              refine oj_callS (fun A c => .tuple #[.slice A (spreadL p.dues n).1.length c, .int .i64 (spreadL p.dues n).2]) 1 enInt (spreadL p.dues n).1 Tryz.call29 rfl (fun w hp => k_spread p.dues p.A p.c n w ((hgp p hpm).rd.mono hp.below) (hdu p hpm) hnb) rfl (fun A66 c66 fp66 hfp66 => ?_)
              refine oj_step (y_move rfl) rfl rfl rfl ?_
              refine oj_step (y_extract rfl rfl) rfl rfl rfl ?_
              refine oj_step (y_extract rfl rfl) rfl rfl rfl ?_
              refine oj_step (y_assign rfl) rfl rfl rfl ?_
              refine oj_step (y_assign rfl) rfl rfl rfl ?_
              refine oj_nil ?_
              refine ej_th (cj_region ?_)
              refine oj_step (y_move rfl) rfl rfl rfl ?_
              refine oj_step (y_move rfl) rfl rfl rfl ?_
              refine oj_step (y_move rfl) rfl rfl rfl ?_
              refine oj_step (y_move rfl) rfl rfl rfl ?_
              refine oj_step (y_build (cs := [.int .i64 n, .slice A66 (spreadL p.dues n).1.length c66, .int .i64 (spreadL p.dues n).2]) st32 rfl (by kernel_rfl)) rfl rfl rfl ?_
              refine oj_buildSlice (cs := [.int .i64 n, .slice A66 (spreadL p.dues n).1.length c66, .int .i64 (spreadL p.dues n).2]) [.int .i64 0, .slice none 0 0, .int .i64 0] Tryz.underlying26 Tryz.sizeOf32 Tryz.zeroValue32 rfl rfl (by kernel_rfl) (by kernel_rfl) rfl (fun b74 => ?_)
              refine oj_append  el26 (fun _ => rfl) encPo_one rfl rfl rfl (reads_lit (sz := 3) [(⟨n, A66, c66, (spreadL p.dues n).1, (spreadL p.dues n).2⟩ : PorV)] (fun _ => rfl) rfl) (by unfold maxLen; simp only [List.length_append, List.length_cons, List.length_nil]; omega) (by simp only [List.length_append, List.length_cons, List.length_nil]; omega) rfl (fun A75 c75 => ?_)
              refine oj_step (y_assign rfl) rfl rfl rfl ?_
              refine oj_nil ?_
              refine ej_blk (ej_th ?_)
              refine cj_regionG (gj_step (y_add rfl rfl (by omega)) rfl rfl rfl (gj_step (y_move rfl) rfl rfl rfl (gj_nil ?_)))
              refine ej_addS (rowsP (fun i => fp i ∨ fp66 i) (out ++ [(⟨n, A66, c66, (spreadL p.dues n).1, (spreadL p.dues n).2⟩ : PorV)])) (fun w1 hp => rowsP_snoc hp (.tail _ (.head _)) (.head _)) ?_
              exact ej_nx (k + 1, (A75, c75, out ++ [(⟨n, A66, c66, (spreadL p.dues n).1, (spreadL p.dues n).2⟩ : PorV)]), fun i => fp i ∨ fp66 i) (by simp only; omega) ⟨by first | omega | (simp only; omega), by simp only [List.length_append, List.length_cons, List.length_nil]; omega, by rw [ports_take hx2 hn, List.map_append, hom]; rfl, fun b hb => hb.elim (hfp b) (hfp66 b)⟩ ⟨rfl, rfl, rfl, rfl, rfl, trivial⟩
            · have h55b := h55
              try simp only [sxb] at h55
              refine cj_exit (ej_then_exit (ej_then_exit (ej_blk_hit (ej_th (cj_seq ?_)))))
              refine cj_regionG (gj_step (y_move rfl) rfl rfl rfl (gj_step (y_assign rfl) rfl rfl rfl (gj_step (y_assign rfl) rfl rfl rfl (gj_nil ?_))))
              refine ej_th (cj_ret ?_)
              have hE : porE Pl.isW price ps = 0 := by rw [porE, if_neg (by rw [h16b]; simp), if_neg (by rw [h20b]; simp), if_neg (by rw [hnm]; simp), if_neg (by rw [hw1]; simp), if_neg (by rw [hd1]; simp)]
              rw [hE]
              exact ej_ret2 rfl Tryz.results6 rfl rfl (fun w' hp => ⟨A9, c9, out, rfl, hp.below, hp.res (fun _ => rfl) (by unfold maxLen; omega), (fun r hr => sl_fp ((hp.shared _ (List.mem_cons_self ..)).1 r hr) (fun b hb => ⟨hfp b hb, (hp.shared _ (List.mem_cons_self ..)).2.1 b hb⟩)), by rw [hom, porL, if_pos hE, List.take_of_length_le (by unfold portsL; rw [List.length_zipWith]; omega)]⟩)

end Go.Proofs.YtppfniekcgnmjaaGreat.Pu
namespace Go.Proofs.YtppfniekcgnmjaaGreat.To
open Go.Sx Go.RowKit
set_option maxRecDepth 20000
theorem el63 : ElemIs Tryz.prog 63 67 3 24 := ⟨⟨_, (.agg #[.int .i64 0, .int .i64 0, .int .i64 0]), Tryz.underlying63, Tryz.type67, by kernel_rfl, by kernel_rfl, by kernel_rfl, by kernel_rfl, by decide⟩⟩
theorem fa32_0 : FieldIs Tryz.prog 32 0 0 1 false := ⟨⟨_, _, Tryz.underlying32, rfl, rfl, Tryz.sizeOf3, Tryz.isAgg3, by decide⟩⟩
theorem fa32_1 : FieldIs Tryz.prog 32 1 1 1 false := ⟨⟨_, _, Tryz.underlying32, rfl, rfl, Tryz.sizeOf23, Tryz.isAgg23, by decide⟩⟩
theorem fa32_2 : FieldIs Tryz.prog 32 2 2 1 false := ⟨⟨_, _, Tryz.underlying32, rfl, rfl, Tryz.sizeOf3, Tryz.isAgg3, by decide⟩⟩
theorem fa65_0 : FieldIs Tryz.prog 65 0 0 3 true := ⟨⟨_, _, Tryz.underlying65, rfl, rfl, Tryz.sizeOf62, Tryz.isAgg62, by decide⟩⟩
theorem fa65_1 : FieldIs Tryz.prog 65 1 3 1 false := ⟨⟨_, _, Tryz.underlying65, rfl, rfl, Tryz.sizeOf22, Tryz.isAgg22, by decide⟩⟩
theorem fa65_2 : FieldIs Tryz.prog 65 2 4 1 false := ⟨⟨_, _, Tryz.underlying65, rfl, rfl, Tryz.sizeOf63, Tryz.isAgg63, by decide⟩⟩
theorem fa69_0 : FieldIs Tryz.prog 69 0 0 1 false := ⟨⟨_, _, Tryz.underlying69, rfl, rfl, Tryz.sizeOf3, Tryz.isAgg3, by decide⟩⟩
theorem fa69_1 : FieldIs Tryz.prog 69 1 1 1 false := ⟨⟨_, _, Tryz.underlying69, rfl, rfl, Tryz.sizeOf3, Tryz.isAgg3, by decide⟩⟩
end Go.Proofs.YtppfniekcgnmjaaGreat.To
