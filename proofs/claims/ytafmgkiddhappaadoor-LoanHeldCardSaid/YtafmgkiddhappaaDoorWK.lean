/- Walks of functions of the program. -/
import Derived.Test.YtafmgkiddhappaaDoorWJ
import Derived.Test.YtafmgkiddhappaaDoorPK
namespace Go.Proofs.YtafmgkiddhappaaDoor
open Go.Sx Go.RowKit
set_option maxRecDepth 20000
theorem way_call (d : Deal) (Ac : Option Addr) (cc : Nat) (y : Ln) (a : Act1) (b : Nat) (hd : DealOk d) (hy : LOk y) (hk : okKind a.kind a.n = true) (hf : y.fees ≤ 999990000) :
    ∃ f, wayV a.kind = .func (.func f) #[] #[] ∧ (∀ args w, (callFunc f args).run Tryd.prog w = .ok (.enter f args) w) ∧ ∀ w : World, w.heap[b]? = some (cellsB 121 (encLn d Ac cc y)) →
      Calls Tryd.prog f (#[] ++ [.pointer (some ⟨b, 0, none⟩), .int .i64 a.n].toArray ++ #[]) w (fun e w' => e = .returned (.int .i64 (actE d y a)) ∧ Mut (ownB b (cellsB 121 (encLn d Ac cc y))) w w' ∧ w'.heap[b]? = some (cellsB 121 (encLn d Ac cc (actL d y a)))) := by
  have hkk := okKind_kinds hk
  obtain ⟨ad, ak, an⟩ := a
  simp only at hkk hk ⊢
  rcases hkk with rfl | rfl | rfl | rfl
  · refine ⟨147, rfl, Tryd.call147, fun w hw => ?_⟩
    have h1 : 1 ≤ an ∧ an ≤ 1073741824 := by
      simp only [okKind, btw, Bool.and_eq_true, decide_eq_true_eq, if_true] at hk; exact hk
    exact k_pay d Ac cc y b an w hw hy h1
  · exact ⟨66, rfl, Tryd.call66, fun w hw => k_renew d Ac cc y b an w hw hd hy hf⟩
  · refine ⟨148, rfl, Tryd.call148, fun w hw => ?_⟩
    have h1 : 1 ≤ an ∧ an ≤ 366 := by
      have h2 : btw 1 an 366 = true := hk
      simp only [btw, Bool.and_eq_true, decide_eq_true_eq] at h2; exact h2
    exact k_hold d Ac cc y b an w hw hy h1
  · exact ⟨149, rfl, Tryd.call149, fun w hw => k_redeem d Ac cc y b an w hw⟩

theorem k_run (d : Deal) (Ac : Option Addr) (cc : Nat) (l : List Act1) (Al : Option Addr) (cl : Nat) (w : World) (hc : Rd w 1 enInt Ac d.closed) (hl0 : Rd w 3 encAct Al l) (hG : Gl w 0 WAYS) (hd : DealOk d) (ha : actsOk d l = true) : Calls Tryd.prog 88 #[.agg #[.int .i64 d.lr, .int .i64 d.lc, .int .i64 d.tr, .int .i64 d.tf, .int .i64 d.te, .int .i64 d.tt, .int .i64 d.tg, .slice Ac d.closed.length cc, .int .i64 d.start, .int .i64 d.sum], .slice Al l.length cl] w (fun e w' => ∃ A c, e = .returned (.tuple #[.agg (encLn d Ac cc (runL d l).x).toArray, .slice A (runL d l).out.length c, .int .i64 (runL d l).at_, .int .i64 (runL d l).e]) ∧ Grow w w' ∧ Res w w' 5 encAcc A (runL d l).out) := by
  have hlen := hl0.len
  obtain ⟨ham, hal⟩ := actsOk_mem ha
  refine enter_pure (args := [.agg #[.int .i64 d.lr, .int .i64 d.lc, .int .i64 d.tr, .int .i64 d.tf, .int .i64 d.te, .int .i64 d.tt, .int .i64 d.tg, .slice Ac d.closed.length cc, .int .i64 d.start, .int .i64 d.sum], .slice Al l.length cl]) [sl (fun b => b < w.heap.size) 1 enInt Ac d.closed, sl (fun b => b < w.heap.size) 3 encAct Al l, gl 0 WAYS] Tryd.func88 rfl (by rw [Tryd.ntmps88]; simp) (fun g hg => by simp at hg; rcases hg with rfl | rfl | rfl; exact ⟨hc, fun _ h => h⟩; exact ⟨hl0, fun _ h => h⟩; exact ⟨hG.1, fun b hb => by have : b = 0 := hb; rw [this]; exact hG.2⟩) ?_
  refine cj_seq (cj_region ?_)
  refine oj_box rfl rfl rfl (fun b2 => ?_)
  refine oj_alloc Tryd.zeroValue121 rfl rfl (fun b4 => ?_)
  refine oj_step (y_assign rfl) rfl rfl rfl ?_
  refine oj_step (y_assign rfl) rfl rfl rfl ?_
  refine oj_step (y_assign rfl) rfl rfl rfl ?_
  refine oj_nil ?_
  refine ej_th ?_
  refine cj_scope rfl ?_
  refine cj_seq (cj_region ?_)
  refine oj_step (y_loadN Tryd.isAgg44 Tryd.sizeOf44 rfl) rfl rfl rfl ?_
  refine oj_step (y_call Tryd.call63 rfl (fun w hp => k_open d Ac cc w)) rfl rfl rfl ?_
  refine oj_store rfl rfl rfl rfl Tryd.sizeOf121 rfl ?_
  refine oj_nil ?_
  refine ej_th (cj_seq (cj_label (ej_th (cj_seq (cj_seq ?_)))))
  refine cj_ownNil 64 5 encAcc ?_
  refine cj_regionG (gj_step (y_move rfl) rfl rfl rfl (gj_step (y_lenA Tryd.underlying69 rfl) rfl rfl rfl (gj_step (y_move rfl) rfl rfl rfl (gj_nil ?_))))
  refine ej_th (cj_block ?_)
  refine cj_lp (X := Nat × Ln × Option Addr × Nat × List Acc × Int × Int) (fun ⟨k, x, A, c, out, at0, e0⟩ => k ≤ l.length ∧ LOk x ∧ x.fees ≤ 10000 * k ∧ out.length = k ∧ runF d k x out at0 e0 (l.drop k) = runL d l) (fun ⟨k, x, A, c, out, at0, e0⟩ => [(1, .slice Al l.length cl), (4, .pointer (some ⟨b4, 0, none⟩)), (5, .slice A out.length c), (6, .int .i64 at0), (7, .int .i64 e0), (12, .slice Al l.length cl), (13, .int .i64 l.length), (14, .int .i64 k)]) (fun ⟨k, x, A, c, out, at0, e0⟩ => [ow 64 5 encAcc A c out, ownB b4 (cellsB 121 (encLn d Ac cc x))]) (fun ⟨k, x, A, c, out, at0, e0⟩ => [sl (fun b => b < w.heap.size) 1 enInt Ac d.closed, sl (fun b => b < w.heap.size) 3 encAct Al l, gl 0 WAYS]) (fun ⟨k, x, A, c, out, at0, e0⟩ => l.length - k) (0, openL d, none, 0, [], 0, 0) (⟨Nat.zero_le _, openL_ok hd, by simp [openL], rfl, rfl⟩) ⟨rfl, rfl, rfl, rfl, rfl, rfl, rfl, rfl, trivial⟩ ?_
  rintro ⟨k, x, A, c, out, at0, e0⟩ ⟨hk, hx, hfe, hol, hl⟩
  refine cj_seq ?_
  refine cj_regionG (gj_step (y_lss rfl rfl) rfl rfl rfl (gj_nil ?_))
  refine ej_th (cj_seq ?_)
  refine cj_cond rfl (fun h15 => ?_) (fun h15 => ?_)
  · have h15b := h15
    try simp only [sxb] at h15
    obtain ⟨a, hxa⟩ : ∃ a, l[k]? = some a := ⟨_, List.getElem?_eq_getElem (by omega)⟩
    have hka := ham a (List.mem_of_getElem? hxa)
    have hkd := okKind_kinds hka.1
    rw [runF_drop d l k a _ _ _ _ _ hxa] at hl
    have hty := toL_ok hd hx hka.2
    have htf := toL_fees d x a.day
    refine cj_skip (ej_th (cj_seq (cj_block (cj_seq (cj_region ?_)))))
    refine oj_step (y_move rfl) rfl rfl rfl ?_
    refine oj_step (y_ixR (reads_sl) Tryd.underlying69 Tryd.sizeOf68 rfl rfl (⟨by omega, by omega⟩)) rfl rfl rfl ?_
    refine oj_step (y_ldW (reads_sl) Tryd.isAgg68 Tryd.sizeOf68 rfl (hxa) (fun _ => rfl)) rfl rfl rfl ?_
    refine oj_alloc Tryd.zeroValue68 rfl rfl (fun b9 => ?_)
    refine oj_step (y_assign rfl) rfl rfl rfl ?_
    refine oj_store rfl rfl rfl rfl Tryd.sizeOf68 rfl ?_
    refine oj_nil ?_
    refine ej_th (cj_seq (cj_region ?_))
    refine oj_step (y_fa0 fa68_0 rfl) rfl rfl rfl ?_
    refine oj_step (y_load1 Tryd.isAgg3 rfl rfl) rfl rfl rfl ?_
    refine oj_callM (X := Unit) (b := b4) (fun _ => .tuple #[]) (fun _ => cellsB 121 (encLn d Ac cc (toL d x a.day))) Tryd.call64 rfl (fun w hp => (k_to d Ac cc x b4 a.day w hp.own1 hp.rdX hd hx hka.2).mono (fun e w2 ⟨h1, h2, h3⟩ => ⟨(), h1, h2, h3⟩)) rfl (fun _ => ?_)
    obtain ⟨y, hy⟩ : ∃ y, y = toL d x a.day := ⟨_, rfl⟩
    rw [← hy] at hl hty htf ⊢
    refine oj_nil ?_
    refine ej_th (cj_seq ?_)
    refine cj_regionG (gj_step (y_move rfl) rfl rfl rfl (gj_step (y_assign rfl) rfl rfl rfl (gj_step (y_assign rfl) rfl rfl rfl (gj_nil ?_))))
    refine ej_th (cj_seq (cj_seq ?_))
    refine cj_regionG ?_
    refine gj_step (y_loadN Tryd.isAgg121 Tryd.sizeOf121 rfl) rfl rfl rfl (?_)
    refine gj_step (y_call Tryd.call65 rfl (fun w hp => k_over d Ac cc y w hd)) rfl rfl rfl ?_
    refine gj_nil ?_
    refine ej_th ?_
    refine cj_cond rfl (fun h24 => ?_) (fun h24 => ?_)
    · have h24b := h24
      try simp only [sxb] at h24
      refine cj_exit (ej_then_exit (ej_blk_pass rfl (ej_then_exit (ej_then_exit (ej_blk_hit (ej_th (cj_seq (cj_region ?_))))))))
      refine oj_step (y_loadN Tryd.isAgg121 Tryd.sizeOf121 rfl) rfl rfl rfl ?_
      refine oj_step (y_move rfl) rfl rfl rfl ?_
      refine oj_step (y_move rfl) rfl rfl rfl ?_
      refine oj_step (y_move rfl) rfl rfl rfl ?_
      refine oj_store rfl rfl rfl rfl Tryd.sizeOf121 rfl ?_
      refine oj_step (y_assign rfl) rfl rfl rfl ?_
      refine oj_step (y_assign rfl) rfl rfl rfl ?_
      refine oj_step (y_assign rfl) rfl rfl rfl ?_
      refine oj_nil ?_
      refine ej_th (cj_ret (ej_noGoto_ret ?_))
      have hr : runL d l = ⟨y, out, k, 25⟩ := by rw [← hl, if_pos h24b]
      rw [hr]
      exact ej_retC4 rfl Tryd.results88 rfl (y_loadN Tryd.isAgg121 Tryd.sizeOf121 rfl) rfl rfl rfl (fun w' hp => ⟨A, c, rfl, hp.below, hp.res (fun _ => rfl) (by unfold maxLen; simp only; omega)⟩)
    · have h24b := h24
      try simp only [sxb] at h24
      refine cj_skip (ej_th (cj_seq (cj_seq ?_)))
      refine cj_plan 9 (by kernel_rfl) (by kernel_rfl) ?_
      refine pl_y 0 rfl (y_fa fa68_1 rfl) rfl rfl rfl rfl (by kernel_rfl) ?_
      refine pl_y 1 rfl (y_load1 Tryd.isAgg3 rfl rfl) rfl rfl rfl rfl (by kernel_rfl) ?_
      refine pl_y 2 rfl (y_sub rfl rfl (by omega)) rfl rfl rfl rfl (by kernel_rfl) ?_
      refine pl_y 3 rfl (y_ixArr Tryd.underlying169 Tryd.sizeOf168 rfl rfl (by omega)) rfl rfl rfl rfl (by kernel_rfl) ?_
      refine pl_y 4 rfl (y_loadG Tryd.isAgg168 rfl (way_at hkd)) rfl rfl rfl rfl (by kernel_rfl) ?_
      refine pl_y 5 rfl (y_fa fa68_2 rfl) rfl rfl rfl rfl (by kernel_rfl) ?_
      refine pl_y 6 rfl (y_load1 Tryd.isAgg3 rfl rfl) rfl rfl rfl rfl (by kernel_rfl) ?_
      refine pl_w1 7 (by kernel_rfl) rfl rfl (pl_fire rfl rfl rfl (by kernel_rfl) ?_)
      refine oj_callMV (X := Unit) (b := b4) (fun _ => .int .i64 (actE d y a)) (fun _ => cellsB 121 (encLn d Ac cc (actL d y a))) rfl rfl (by obtain ⟨f, h1, h2, h3⟩ := way_call d Ac cc y a b4 hd hty hka.1 (by omega); exact ⟨f, #[], #[], h1, h2, fun w hp => (h3 w hp.own1).mono (fun e w2 ⟨p, q, r⟩ => ⟨(), p, q, r⟩)⟩) rfl (fun _ => ?_)
      obtain ⟨z, hz⟩ : ∃ z, z = actL d y a := ⟨_, rfl⟩
      obtain ⟨en, hen⟩ : ∃ en, en = actE d y a := ⟨_, rfl⟩
      rw [← hz, ← hen] at hl ⊢
      refine oj_nil ?_
      refine ej_pl (lt_w (by kernel_rfl) (lt_y (y_fa fa68_2 rfl) rfl (lt_w (by kernel_rfl) (lt_y (y_ixArr Tryd.underlying169 Tryd.sizeOf168 rfl rfl (by omega)) rfl (lt_y (y_sub rfl rfl (by omega)) rfl (lt_y (y_load1 Tryd.isAgg3 rfl rfl) rfl (lt_y (y_fa fa68_1 rfl) rfl (lt_nil)))))))) ?_
      refine pl_y 8 rfl (y_assign rfl) rfl rfl rfl rfl (by kernel_rfl) ?_
      refine pl_end (by kernel_rfl) ?_
      refine ej_th (cj_seq ?_)
      refine cj_regionG (gj_step (y_move rfl) rfl rfl rfl (gj_step (y_neq rfl rfl) rfl rfl rfl (gj_nil ?_)))
      refine ej_th ?_
      refine cj_cond rfl (fun h34 => ?_) (fun h34 => ?_)
      · have h34b := h34
        try simp only [sxb] at h34
        refine cj_exit (ej_then_exit (ej_blk_pass rfl (ej_then_exit (ej_then_exit (ej_blk_hit (ej_th (cj_seq (cj_region ?_))))))))
        refine oj_step (y_loadN Tryd.isAgg121 Tryd.sizeOf121 rfl) rfl rfl rfl ?_
        refine oj_step (y_move rfl) rfl rfl rfl ?_
        refine oj_step (y_move rfl) rfl rfl rfl ?_
        refine oj_step (y_move rfl) rfl rfl rfl ?_
        refine oj_store rfl rfl rfl rfl Tryd.sizeOf121 rfl ?_
        refine oj_step (y_assign rfl) rfl rfl rfl ?_
        refine oj_step (y_assign rfl) rfl rfl rfl ?_
        refine oj_step (y_assign rfl) rfl rfl rfl ?_
        refine oj_nil ?_
        refine ej_th (cj_ret (ej_noGoto_ret ?_))
        have hr : runL d l = ⟨z, out, k, en⟩ := by rw [← hl, if_neg (by rw [h24b]; simp), if_neg h34]
        rw [hr]
        exact ej_retC4 rfl Tryd.results88 rfl (y_loadN Tryd.isAgg121 Tryd.sizeOf121 rfl) rfl rfl rfl (fun w' hp => ⟨A, c, rfl, hp.below, hp.res (fun _ => rfl) (by unfold maxLen; simp only; omega)⟩)
      · have h34b := h34
        try simp only [sxb] at h34
        refine cj_skip (ej_th (cj_region ?_))
        refine oj_step (y_move rfl) rfl rfl rfl ?_
        refine oj_step (y_fa0 fa121_0 rfl) rfl rfl rfl ?_
        refine oj_step (y_loadN Tryd.isAgg64 Tryd.sizeOf64 rfl) rfl rfl rfl ?_
        refine oj_buildSlice [.int .i64 0, .int .i64 0, .int .i64 0, .int .i64 0, .bool false] Tryd.underlying74 Tryd.sizeOf64 Tryd.zeroValue64 rfl rfl (by kernel_rfl) rfl rfl (fun b38 => ?_)
        refine oj_append  el74 (fun _ => rfl) encAcc_one rfl rfl rfl (reads_lit [z.acc] (fun _ => rfl) rfl) (by simp [maxLen]; omega) (by simp; omega) rfl (fun A39 c39 => ?_)
        refine oj_step (y_move rfl) rfl rfl rfl ?_
        refine oj_step (y_add rfl rfl (by omega)) rfl rfl rfl ?_
        refine oj_step (y_assign rfl) rfl rfl rfl ?_
        refine oj_step (y_assign rfl) rfl rfl rfl ?_
        refine oj_nil ?_
        refine ej_blk (ej_th ?_)
        refine cj_regionG (gj_step (y_add rfl rfl (by omega)) rfl rfl rfl (gj_step (y_move rfl) rfl rfl rfl (gj_nil ?_)))
        rw [if_neg (by rw [h24b]; simp), if_pos h34] at hl
        have hzok : LOk z := by rw [hz]; exact actL_ok hd hty hka.1 (by omega)
        have hzf : z.fees ≤ y.fees + 10000 := by rw [hz]; exact actL_fees hd
        rw [h34]
        exact ej_nx (k + 1, z, A39, c39, out ++ [z.acc], ((k : Int) + 1), 0) (by simp only; omega) ⟨by omega, hzok, by omega, by simp [hol], hl⟩ ⟨rfl, rfl, rfl, rfl, rfl, rfl, rfl, rfl, trivial⟩
  · have h15b := h15
    try simp only [sxb] at h15
    rw [List.drop_of_length_le (by omega), runF_nil] at hl
    refine cj_exit (ej_then_exit (ej_then_exit (ej_blk_hit (ej_th (cj_seq (cj_region ?_))))))
    refine oj_step (y_loadN Tryd.isAgg121 Tryd.sizeOf121 rfl) rfl rfl rfl ?_
    refine oj_step (y_move rfl) rfl rfl rfl ?_
    refine oj_step (y_move rfl) rfl rfl rfl ?_
    refine oj_step (y_move rfl) rfl rfl rfl ?_
    refine oj_store rfl rfl rfl rfl Tryd.sizeOf121 rfl ?_
    refine oj_step (y_assign rfl) rfl rfl rfl ?_
    refine oj_step (y_assign rfl) rfl rfl rfl ?_
    refine oj_step (y_assign rfl) rfl rfl rfl ?_
    refine oj_nil ?_
    refine ej_th (cj_ret (ej_noGoto_ret ?_))
    have hr : runL d l = ⟨x, out, at0, e0⟩ := hl.symm
    rw [hr]
    exact ej_retC4 rfl Tryd.results88 rfl (y_loadN Tryd.isAgg121 Tryd.sizeOf121 rfl) rfl rfl rfl (fun w' hp => ⟨A, c, rfl, hp.below, hp.res (fun _ => rfl) (by unfold maxLen; simp only; omega)⟩)

end Go.Proofs.YtafmgkiddhappaaDoor
