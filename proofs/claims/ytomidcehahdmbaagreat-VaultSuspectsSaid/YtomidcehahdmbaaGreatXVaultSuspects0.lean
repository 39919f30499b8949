/- Texts of ours, joined: 15 of them. Conditions: none. -/
import Derived.Test.YtomidcehahdmbaaGreatZh
import Derived.Test.YtomidcehahdmbaaGreatProg
import Derived.Laws.StructEq
namespace Go.Proofs.YtomidcehahdmbaaGreat
open Go Go.Sx Go.RowKit Vm
theorem form_V (s : StrV) (last : Int) (c : CarryV) :
    ((((btw last c.day 36500 && btw 1 c.kind 5 && btw 0 c.bag 31 && btw 0 c.by_ (s.staff.length - 1) && btw 0 c.with_ (s.staff.length - 1) && c.by_ != c.with_)
      && (((c.kind == 1 || c.kind == 2) && btw 1 c.to_ (s.rooms.length - 1)) || (!(c.kind == 1 || c.kind == 2) && c.to_ == 0)))
      && (((c.kind == 1 || c.kind == 3 || c.kind == 4) && btw 1 c.mark 999999) || (!(c.kind == 1 || c.kind == 3 || c.kind == 4) && c.mark == 0)))
      && ((c.kind == 1 && btw 1 c.suits 15) || (!(c.kind == 1) && c.suits == 0))) = carryB s.s last c := by
  have en : (c.by_ != c.with_) = !decide (c.by_ = c.with_) := by
    by_cases h : c.by_ = c.with_ <;> simp [h]
  have z : ∀ x : Int, (x == 0) = decide (x = 0) := fun x => by rw [Bool.eq_iff_iff, beq_iff_eq, decide_eq_true_iff]
  rw [en, z, z, z, car_eq]
  unfold car1B kindB
  show _ = (btw last c.day 36500 && btw 0 c.bag 31 && btw 0 c.by_ (s.staff.length - 1) && btw 0 c.with_ (s.staff.length - 1) && !decide (c.by_ = c.with_) && _)
  generalize btw last c.day 36500 = a1
  generalize btw 0 c.bag 31 = a2
  generalize btw 0 c.by_ (s.staff.length - 1) = a3
  generalize btw 0 c.with_ (s.staff.length - 1) = a4
  generalize decide (c.by_ = c.with_) = a5
  show _ = (_ && if c.kind = 1 then btw 1 c.to_ (s.rooms.length - 1) && btw 1 c.mark 999999 && btw 1 c.suits 15 else if c.kind = 2 then btw 1 c.to_ (s.rooms.length - 1) && decide (c.mark = 0) && decide (c.suits = 0) else if c.kind = 3 ∨ c.kind = 4 then decide (c.to_ = 0) && btw 1 c.mark 999999 && decide (c.suits = 0) else if c.kind = 5 then decide (c.to_ = 0) && decide (c.mark = 0) && decide (c.suits = 0) else false)
  generalize btw 1 c.to_ (s.rooms.length - 1) = b1
  generalize btw 1 c.mark 999999 = b2
  generalize btw 1 c.suits 15 = b3
  generalize decide (c.to_ = 0) = d1
  generalize decide (c.mark = 0) = d2
  generalize decide (c.suits = 0) = d3
  by_cases k0 : 1 ≤ c.kind ∧ c.kind ≤ 5
  · rw [btw_t.2 k0]
    rcases (show c.kind = 1 ∨ c.kind = 2 ∨ c.kind = 3 ∨ c.kind = 4 ∨ c.kind = 5 by omega) with k | k | k | k | k <;> simp [k, Bool.and_assoc]
  · rw [btw_f.2 k0, if_neg (by omega), if_neg (by omega), if_neg (by omega), if_neg (by omega)]; simp
end Go.Proofs.YtomidcehahdmbaaGreat
namespace Go.Proofs.YtomidcehahdmbaaGreat
open Go.Sx Go.RowKit
set_option maxRecDepth 20000

end Go.Proofs.YtomidcehahdmbaaGreat
namespace Go.Proofs.YtomidcehahdmbaaGreat
open Go.Sx Go.RowKit Vm
set_option maxRecDepth 20000
set_option maxHeartbeats 1600000 in
theorem k_form (s : StrV) (l : List CarryV) (A : Option Addr) (cc : Nat) (w : World) (hs : StrRd w s) (hl : Rd w 8 encCa A l) : Calls Tryz.prog 42 #[.agg #[.slice s.Ar s.rooms.length s.cr, .slice s.Ag s.gates.length s.cg, .slice s.As s.staff.length s.cs], .slice A l.length cc] w (fun e w' => e = .returned (.bool (logB s.s l)) ∧ Grow w w') := by
  have hlr := hs.rooms.len
  have hls := hs.staff.len
  have hll := hl.len
  refine enter_pure (args := [.agg #[.slice s.Ar s.rooms.length s.cr, .slice s.Ag s.gates.length s.cg, .slice s.As s.staff.length s.cs], .slice A l.length cc]) [sl (fun b => b < w.heap.size) 8 encCa A l] Tryz.func42 rfl (by rw [Tryz.ntmps42]; simp) (fun g hg => by simp at hg; subst hg; exact ⟨hl, fun _ h => h⟩) ?_
  refine cj_seq (cj_region ?_)
  refine oj_box rfl rfl rfl (fun b2 => ?_)
  refine oj_step (y_assign rfl) rfl rfl rfl ?_
  refine oj_nil ?_
  refine ej_th (cj_seq ?_)
  refine cj_regionG (gj_step (y_assign rfl) rfl rfl rfl (gj_nil ?_))
  refine ej_th (cj_seq (cj_seq ?_))
  refine cj_regionG (gj_step (y_assign rfl) rfl rfl rfl (gj_nil ?_))
  refine ej_th (cj_block ?_)
  refine cj_lpic (X := Nat × Int) [(1, _), (2, _)] (fun ⟨k, last⟩ => k ≤ l.length ∧ formB s.s last (l.drop k) = formB s.s 0 l) (fun ⟨k, last⟩ => [(5, .int .i64 last), (6, .int .i64 (k : Nat))]) (fun ⟨k, last⟩ => l.length - k) (0, 0) (⟨Nat.zero_le _, rfl⟩) ⟨rfl, rfl, rfl, rfl, trivial⟩ ?_
  rintro ⟨k, last⟩ ⟨hk, hsk⟩
  dsimp only [List.cons_append, List.nil_append]
  refine cj_seq (cj_seq ?_)
  refine cj_regionG (gj_step (y_move rfl) rfl rfl rfl (gj_step (y_move rfl) rfl rfl rfl (gj_step (y_lenA Tryz.underlying27 rfl) rfl rfl rfl (gj_step (y_lss rfl rfl) rfl rfl rfl (gj_nil ?_)))))
  refine ej_th ?_
  refine cj_cond rfl (fun h15 => ?_) (fun h15 => ?_)
  · have h15b := h15
    try simp only [sxb] at h15
    obtain ⟨c, hck⟩ : ∃ c, l[k]? = some c := ⟨_, List.getElem?_eq_getElem (by omega)⟩
    rw [form_drop s.s last hck] at hsk
    refine cj_skip (ej_th (cj_seq (cj_block (cj_seq (cj_region ?_)))))
    refine oj_step (y_move rfl) rfl rfl rfl ?_
    refine oj_step (y_move rfl) rfl rfl rfl ?_
    refine oj_step (y_ixR (reads_sl) Tryz.underlying27 Tryz.sizeOf60 rfl rfl (⟨by omega, by omega⟩)) rfl rfl rfl ?_
    refine oj_step (y_ldW (reads_sl) Tryz.isAgg60 Tryz.sizeOf60 rfl (hck) (fun _ => rfl)) rfl rfl rfl ?_
    refine oj_alloc Tryz.zeroValue60 rfl rfl (fun b7 => ?_)
    refine oj_store rfl rfl rfl rfl Tryz.sizeOf60 rfl ?_
    refine oj_nil ?_
    refine ej_th (cj_seq ?_)
    refine cj_regionG (gj_step (y_fa fa60_1 rfl) rfl rfl rfl (gj_step (y_load1 Tryz.isAgg3 rfl rfl) rfl rfl rfl (gj_step (y_eql rfl rfl) rfl rfl rfl (gj_step (y_assign rfl) rfl rfl rfl (gj_nil ?_)))))
    refine ej_th (cj_seq ?_)
    refine cj_regionG (gj_step (y_move rfl) rfl rfl rfl (gj_step (y_move rfl) rfl rfl rfl (gj_g 3 26 29 rfl rfl rfl rfl (fun hg26 => gj_yes rfl rfl rfl (y_fa fa60_1 rfl) rfl rfl (gj_yes rfl rfl rfl (y_load1 Tryz.isAgg3 rfl rfl) rfl rfl (gj_yes rfl rfl rfl (y_eql rfl rfl) rfl rfl (gj_nil rfl)))) (gj_step (y_or rfl rfl rfl) rfl rfl rfl (gj_step (y_assign rfl) rfl rfl rfl (gj_nil ?_))))))
    refine ej_th (cj_seq ?_)
    refine cj_regionG (gj_step (y_move rfl) rfl rfl rfl (gj_step (y_move rfl) rfl rfl rfl (gj_g 3 32 35 rfl rfl rfl rfl (fun hg32 => gj_yes rfl rfl rfl (y_fa fa60_1 rfl) rfl rfl (gj_yes rfl rfl rfl (y_load1 Tryz.isAgg3 rfl rfl) rfl rfl (gj_yes rfl rfl rfl (y_eql rfl rfl) rfl rfl (gj_nil rfl)))) (gj_step (y_or rfl rfl rfl) rfl rfl rfl (gj_step (y_move rfl) rfl rfl rfl (gj_g 3 37 40 rfl rfl rfl rfl (fun hg37 => gj_yes rfl rfl rfl (y_fa fa60_1 rfl) rfl rfl (gj_yes rfl rfl rfl (y_load1 Tryz.isAgg3 rfl rfl) rfl rfl (gj_yes rfl rfl rfl (y_eql rfl rfl) rfl rfl (gj_nil rfl)))) (gj_step (y_or rfl rfl rfl) rfl rfl rfl (gj_step (y_assign rfl) rfl rfl rfl (gj_nil ?_)))))))))
    refine ej_th (cj_seq ?_)
    refine cj_regionG ?_
    refine gj_step (y_move rfl) rfl rfl rfl (gj_step (y_fa0 fa60_0 rfl) rfl rfl rfl (gj_step (y_load1 Tryz.isAgg3 rfl rfl) rfl rfl rfl (?_)))
    refine gj_step (y_call Tryz.call20 rfl (fun w hp => k_From _ _ _ w)) rfl rfl rfl ?_
    refine gj_step (y_move rfl) rfl rfl rfl (?_)
    refine gj_g 3 46 49 rfl rfl rfl rfl (fun hg46 => gj_yes rfl rfl rfl (y_fa fa60_1 rfl) rfl rfl (gj_yes rfl rfl rfl (y_load1 Tryz.isAgg3 rfl rfl) rfl rfl (gj_yes rfl rfl rfl (y_call Tryz.call20 rfl (fun w hp => k_From _ _ _ w)) rfl rfl (gj_nil rfl)))) ?_
    refine gj_step (y_and rfl rfl rfl) rfl rfl rfl (gj_step (y_move rfl) rfl rfl rfl (?_))
    refine gj_g 3 51 54 rfl rfl rfl rfl (fun hg51 => gj_yes rfl rfl rfl (y_fa fa60_2 rfl) rfl rfl (gj_yes rfl rfl rfl (y_load1 Tryz.isAgg3 rfl rfl) rfl rfl (gj_yes rfl rfl rfl (y_call Tryz.call20 rfl (fun w hp => k_From _ _ _ w)) rfl rfl (gj_nil rfl)))) ?_
    refine gj_step (y_and rfl rfl rfl) rfl rfl rfl (gj_step (y_move rfl) rfl rfl rfl (?_))
    refine gj_g 7 56 63 rfl rfl rfl rfl (fun hg56 => gj_yes rfl rfl rfl (y_fa fa60_4 rfl) rfl rfl (gj_yes rfl rfl rfl (y_load1 Tryz.isAgg3 rfl rfl) rfl rfl (gj_yes rfl rfl rfl (y_fa fa26_2 rfl) rfl rfl (gj_yes rfl rfl rfl (y_load1 Tryz.isAgg24 rfl rfl) rfl rfl (gj_yes rfl rfl rfl (y_lenA Tryz.underlying24 rfl) rfl rfl (gj_yes rfl rfl rfl (y_sub rfl rfl (by omega)) rfl rfl (gj_yes rfl rfl rfl (y_call Tryz.call20 rfl (fun w hp => k_From _ _ _ w)) rfl rfl (gj_nil rfl)))))))) ?_
    refine gj_step (y_and rfl rfl rfl) rfl rfl rfl (gj_step (y_move rfl) rfl rfl rfl (?_))
    refine gj_g 7 65 72 rfl rfl rfl rfl (fun hg65 => gj_yes rfl rfl rfl (y_fa fa60_5 rfl) rfl rfl (gj_yes rfl rfl rfl (y_load1 Tryz.isAgg3 rfl rfl) rfl rfl (gj_yes rfl rfl rfl (y_fa fa26_2 rfl) rfl rfl (gj_yes rfl rfl rfl (y_load1 Tryz.isAgg24 rfl rfl) rfl rfl (gj_yes rfl rfl rfl (y_lenA Tryz.underlying24 rfl) rfl rfl (gj_yes rfl rfl rfl (y_sub rfl rfl (by omega)) rfl rfl (gj_yes rfl rfl rfl (y_call Tryz.call20 rfl (fun w hp => k_From _ _ _ w)) rfl rfl (gj_nil rfl)))))))) ?_
    refine gj_step (y_and rfl rfl rfl) rfl rfl rfl (gj_step (y_move rfl) rfl rfl rfl (?_))
    refine gj_g 5 74 79 rfl rfl rfl rfl (fun hg74 => gj_yes rfl rfl rfl (y_fa fa60_4 rfl) rfl rfl (gj_yes rfl rfl rfl (y_load1 Tryz.isAgg3 rfl rfl) rfl rfl (gj_yes rfl rfl rfl (y_fa fa60_5 rfl) rfl rfl (gj_yes rfl rfl rfl (y_load1 Tryz.isAgg3 rfl rfl) rfl rfl (gj_yes rfl rfl rfl (y_neq rfl rfl) rfl rfl (gj_nil rfl)))))) ?_
    refine gj_step (y_and rfl rfl rfl) rfl rfl rfl (gj_step (y_assign rfl) rfl rfl rfl (?_))
    refine gj_nil ?_
    refine ej_th (cj_seq ?_)
    refine cj_regionG ?_
    refine gj_step (y_move rfl) rfl rfl rfl (gj_step (y_move rfl) rfl rfl rfl (?_))
    refine gj_g 19 82 101 rfl rfl rfl rfl (fun hg82 => gj_yes rfl rfl rfl (y_move rfl) rfl rfl (gj_yes rfl rfl rfl (y_move rfl) rfl rfl (gj_g 7 84 91 rfl rfl rfl rfl (fun hg84 => gj_yes rfl rfl rfl (y_fa fa60_3 rfl) rfl rfl (gj_yes rfl rfl rfl (y_load1 Tryz.isAgg3 rfl rfl) rfl rfl (gj_yes rfl rfl rfl (y_fa0 fa26_0 rfl) rfl rfl (gj_yes rfl rfl rfl (y_load1 Tryz.isAgg22 rfl rfl) rfl rfl (gj_yes rfl rfl rfl (y_lenA Tryz.underlying22 rfl) rfl rfl (gj_yes rfl rfl rfl (y_sub rfl rfl (by omega)) rfl rfl (gj_yes rfl rfl rfl (y_call Tryz.call20 rfl (fun w hp => k_From _ _ _ w)) rfl rfl (gj_nil rfl)))))))) (gj_yes rfl rfl rfl (y_and rfl rfl rfl) rfl rfl (gj_yes rfl rfl rfl (y_move rfl) rfl rfl (gj_g 7 93 100 rfl rfl rfl rfl (fun hg93 => gj_yes rfl rfl rfl (y_move rfl) rfl rfl (gj_yes rfl rfl rfl (y_not rfl) rfl rfl (gj_yes rfl rfl rfl (y_move rfl) rfl rfl (gj_g 3 96 99 rfl rfl rfl rfl (fun hg96 => gj_yes rfl rfl rfl (y_fa fa60_3 rfl) rfl rfl (gj_yes rfl rfl rfl (y_load1 Tryz.isAgg3 rfl rfl) rfl rfl (gj_yes rfl rfl rfl (y_eql rfl rfl) rfl rfl (gj_nil rfl)))) (gj_yes rfl rfl rfl (y_and rfl rfl rfl) rfl rfl (gj_nil rfl)))))) (gj_yes rfl rfl rfl (y_or rfl rfl rfl) rfl rfl (gj_nil rfl)))))))) ?_
    refine gj_step (y_and rfl rfl rfl) rfl rfl rfl (gj_step (y_assign rfl) rfl rfl rfl (?_))
    refine gj_nil ?_
    refine ej_th (cj_seq ?_)
    refine cj_regionG ?_
    refine gj_step (y_move rfl) rfl rfl rfl (gj_step (y_move rfl) rfl rfl rfl (?_))
    refine gj_g 15 104 119 rfl rfl rfl rfl (fun hg104 => gj_yes rfl rfl rfl (y_move rfl) rfl rfl (gj_yes rfl rfl rfl (y_move rfl) rfl rfl (gj_g 3 106 109 rfl rfl rfl rfl (fun hg106 => gj_yes rfl rfl rfl (y_fa fa60_6 rfl) rfl rfl (gj_yes rfl rfl rfl (y_load1 Tryz.isAgg3 rfl rfl) rfl rfl (gj_yes rfl rfl rfl (y_call Tryz.call20 rfl (fun w hp => k_From _ _ _ w)) rfl rfl (gj_nil rfl)))) (gj_yes rfl rfl rfl (y_and rfl rfl rfl) rfl rfl (gj_yes rfl rfl rfl (y_move rfl) rfl rfl (gj_g 7 111 118 rfl rfl rfl rfl (fun hg111 => gj_yes rfl rfl rfl (y_move rfl) rfl rfl (gj_yes rfl rfl rfl (y_not rfl) rfl rfl (gj_yes rfl rfl rfl (y_move rfl) rfl rfl (gj_g 3 114 117 rfl rfl rfl rfl (fun hg114 => gj_yes rfl rfl rfl (y_fa fa60_6 rfl) rfl rfl (gj_yes rfl rfl rfl (y_load1 Tryz.isAgg3 rfl rfl) rfl rfl (gj_yes rfl rfl rfl (y_eql rfl rfl) rfl rfl (gj_nil rfl)))) (gj_yes rfl rfl rfl (y_and rfl rfl rfl) rfl rfl (gj_nil rfl)))))) (gj_yes rfl rfl rfl (y_or rfl rfl rfl) rfl rfl (gj_nil rfl)))))))) ?_
    refine gj_step (y_and rfl rfl rfl) rfl rfl rfl (gj_step (y_assign rfl) rfl rfl rfl (?_))
    refine gj_nil ?_
    refine ej_th (cj_seq ?_)
    refine cj_regionG ?_
    refine gj_step (y_move rfl) rfl rfl rfl (gj_step (y_move rfl) rfl rfl rfl (?_))
    refine gj_g 15 122 137 rfl rfl rfl rfl (fun hg122 => gj_yes rfl rfl rfl (y_move rfl) rfl rfl (gj_yes rfl rfl rfl (y_move rfl) rfl rfl (gj_g 3 124 127 rfl rfl rfl rfl (fun hg124 => gj_yes rfl rfl rfl (y_fa fa60_7 rfl) rfl rfl (gj_yes rfl rfl rfl (y_load1 Tryz.isAgg3 rfl rfl) rfl rfl (gj_yes rfl rfl rfl (y_call Tryz.call20 rfl (fun w hp => k_From _ _ _ w)) rfl rfl (gj_nil rfl)))) (gj_yes rfl rfl rfl (y_and rfl rfl rfl) rfl rfl (gj_yes rfl rfl rfl (y_move rfl) rfl rfl (gj_g 7 129 136 rfl rfl rfl rfl (fun hg129 => gj_yes rfl rfl rfl (y_move rfl) rfl rfl (gj_yes rfl rfl rfl (y_not rfl) rfl rfl (gj_yes rfl rfl rfl (y_move rfl) rfl rfl (gj_g 3 132 135 rfl rfl rfl rfl (fun hg132 => gj_yes rfl rfl rfl (y_fa fa60_7 rfl) rfl rfl (gj_yes rfl rfl rfl (y_load1 Tryz.isAgg3 rfl rfl) rfl rfl (gj_yes rfl rfl rfl (y_eql rfl rfl) rfl rfl (gj_nil rfl)))) (gj_yes rfl rfl rfl (y_and rfl rfl rfl) rfl rfl (gj_nil rfl)))))) (gj_yes rfl rfl rfl (y_or rfl rfl rfl) rfl rfl (gj_nil rfl)))))))) ?_
    refine gj_step (y_and rfl rfl rfl) rfl rfl rfl (gj_step (y_assign rfl) rfl rfl rfl (?_))
    refine gj_nil ?_
    refine ej_th (cj_seq (cj_seq ?_))
    refine cj_regionG (gj_step (y_move rfl) rfl rfl rfl (gj_step (y_not rfl) rfl rfl rfl (gj_nil ?_)))
    refine ej_th ?_
    refine cj_cond rfl (fun h140 => ?_) (fun h140 => ?_)
    · have h140b := h140
      try simp only [sxb] at h140
      rw [form_V] at h140b
      refine cj_seq ?_
      refine cj_regionG (gj_step (y_assign rfl) rfl rfl rfl (gj_nil ?_))
      refine ej_th (cj_ret (ej_then_ret (ej_blk_ret (ej_then_ret (ej_then_ret (ej_blk_ret (ej_then_ret ?_)))))))
      refine ej_ret1 rfl Tryz.results42 rfl (fun w' hp => ⟨?_, hp.below⟩)
      rw [logB_no]
      rw [← hsk, not_t h140b]; rfl
    · have h140b := h140
      try simp only [sxb] at h140
      rw [form_V] at h140b
      refine cj_skip (ej_th ?_)
      refine cj_regionG (gj_step (y_fa0 fa60_0 rfl) rfl rfl rfl (gj_step (y_load1 Tryz.isAgg3 rfl rfl) rfl rfl rfl (gj_step (y_assign rfl) rfl rfl rfl (gj_nil ?_))))
      refine ej_blk (ej_th ?_)
      refine cj_regionG (gj_step (y_move rfl) rfl rfl rfl (gj_step (y_add rfl rfl (by omega)) rfl rfl rfl (gj_step (y_assign rfl) rfl rfl rfl (gj_nil ?_))))
      exact ej_nx (k + 1, c.day) (by first | omega | (simp only; omega)) ⟨by first | omega | (simp only; omega), by rw [← hsk, not_f h140b]; rfl⟩ ⟨rfl, rfl, rfl, rfl, trivial⟩
  · have h15b := h15
    try simp only [sxb] at h15
    refine cj_exit (ej_then_exit (ej_then_exit (ej_blk_hit (ej_th (cj_seq ?_)))))
    refine cj_regionG (gj_step (y_move rfl) rfl rfl rfl (gj_step (y_lenA Tryz.underlying27 rfl) rfl rfl rfl (gj_step (y_leq rfl rfl) rfl rfl rfl (gj_step (y_assign rfl) rfl rfl rfl (gj_nil ?_)))))
    refine ej_th (cj_ret ?_)
    refine ej_ret1 rfl Tryz.results42 rfl (fun w' hp => ⟨?_, hp.below⟩)
    rw [logB_yes]
    rw [← hsk, List.drop_of_length_le (by omega)]; rfl

end Go.Proofs.YtomidcehahdmbaaGreat
namespace Vm
open Go.Proofs.YtomidcehahdmbaaGreat
theorem play_of {s : Str} {l : List CarryV} (hs : strB s = true) (hl : logB s l = true) : playE s l = (run s log0 l).2.2 ∧ playAt s l = (run s log0 l).2.1 := by
  unfold playE playAt
  rw [if_pos hs, if_pos hl, if_pos hs, if_pos hl]
  exact ⟨rfl, rfl⟩
theorem play_run {s : Str} {l : List CarryV} (h : playE s l = 0) : (run s log0 l).2.2 = 0 ∧ playB s l = (run s log0 l).1.bags ∧ playAt s l = l.length := by
  obtain ⟨hs, hl, _⟩ := play_0 h
  obtain ⟨h1, h2⟩ := play_of hs hl
  rw [h] at h1
  refine ⟨h1.symm, by unfold playB; rw [if_pos h], ?_⟩
  rw [h2, run_at s l log0 h1.symm]
theorem play_take {s : Str} {l : List CarryV} (h : playE s l = 0) {k : Nat} (hk : k ≤ l.length) : playE s (l.take k) = 0 ∧ playAt s (l.take k) = k := by
  obtain ⟨hs, hl, _⟩ := play_0 h
  have h1 := (play_run h).1
  have h2 := run_take s l log0 k h1
  obtain ⟨h3, _⟩ := play_of hs (logB_take hl k)
  have h4 : playE s (l.take k) = 0 := h3.trans h2
  refine ⟨h4, ?_⟩
  rw [(play_run h4).2.2, List.length_take, Nat.min_eq_left hk]
theorem run_step {s : Str} {st : LogV} {l : List CarryV} {k : Nat} {c : CarryV} (h : (run s st l).2.2 = 0) (hc : l[k]? = some c) : stepE s (run s st (l.take k)).1 c = 0 ∧ (run s st (l.take (k + 1))).1 = stepN (run s st (l.take k)).1 c := by
  have h1 := run_take s l st k h
  have h2 := run_take s l st (k + 1) h
  rw [List.take_add_one, hc, Option.toList_some] at h2 ⊢
  rw [run_snoc s _ _ _ h1] at h2 ⊢
  by_cases e : stepE s (run s st (l.take k)).1 c = 0
  · rw [if_pos e]
    exact ⟨e, rfl⟩
  · rw [if_neg e] at h2
    exact absurd h2 e
theorem play_next {s : Str} {l : List CarryV} {k : Nat} {c : CarryV} (h : playE s l = 0) (hc : l[k]? = some c) : playB s (l.take (k + 1)) = (playB s (l.take k)).set c.bag.toNat (newBag ((playB s (l.take k)).getD c.bag.toNat bag0) c) := by
  have hk : k < l.length := (List.getElem?_eq_some_iff.1 hc).1
  have h1 := (play_take h (k := k) (by omega)).1
  have h2 := (play_take h (k := k + 1) (by omega)).1
  rw [(play_run h1).2.1, (play_run h2).2.1, (run_step (play_run h).1 hc).2]
  rfl
theorem set_back {l : List BagV} {n : Nat} (u : BagV) (hn : n < l.length) : (l.set n u).set n (l.getD n bag0) = l := by
  rw [List.set_set, List.getD_eq_getElem?_getD, List.getElem?_eq_getElem hn, Option.getD_some, List.set_getElem_self]
theorem part_law {s : Str} {l : List CarryV} {k : Nat} {c : CarryV} (h : playE s l = 0) (hc : l[k]? = some c) (hb : 0 ≤ c.bag ∧ c.bag ≤ 31) : (playB s (l.take (k + 1))).set c.bag.toNat ((playB s (l.take k)).getD c.bag.toNat bag0) = playB s (l.take k) := by
  rw [play_next h hc]
  exact set_back _ (by rw [playB_len]; omega)
end Vm
namespace Go.Proofs.YtomidcehahdmbaaGreat
open Go Go.Sx Go.RowKit Vm
theorem tk_at {l : List BagV} (h : l.length = 32) {n : Int} (hn : 0 ≤ n ∧ n ≤ 31) : Tk 5 (0 + n.toNat * 5) (l.flatMap encBa) (encBa (l.getD n.toNat bag0)) := by
  rw [Nat.zero_add]
  exact tk_bag (bf_at h hn)
theorem set_at {l : List BagV} (h : l.length = 32) {n : Int} (hn : 0 ≤ n ∧ n ≤ 31) (u : BagV) : SetC (0 + n.toNat * 5) (encBa u) (l.flatMap encBa) ((l.set n.toNat u).flatMap encBa) := by
  have hb := bf_at h hn
  rw [flat_split encBa _ _ _ hb, flat_set encBa _ _ _ u hb]
  refine setC_mid _ (encBa (l.getD n.toNat bag0)) (encBa u) _ rfl ?_
  rw [flatMap_len encBa 5 enBa_len, List.length_take, h]
  omega
theorem encCa_one (x : CarryV) : ∀ v ∈ encCa x, v.oneCell' = true := by
  intro v hv
  simp only [encCa, List.mem_cons, List.mem_nil_iff, or_false] at hv
  rcases hv with rfl | rfl | rfl | rfl | rfl | rfl | rfl | rfl <;> rfl
end Go.Proofs.YtomidcehahdmbaaGreat
namespace Vm
open Go.Proofs.YtomidcehahdmbaaGreat
def roomK (s : Str) (l : List CarryV) (bag : Int) (k : Nat) : Int := ((playB s (l.take k)).getD bag.toNat bag0).room
theorem getD_set_ne {l : List BagV} {i j : Nat} (h : i ≠ j) (u : BagV) : (l.set i u).getD j bag0 = l.getD j bag0 := by
  rw [List.getD_eq_getElem?_getD, List.getD_eq_getElem?_getD, List.getElem?_set_ne h]
theorem getD_set_eq {l : List BagV} {i : Nat} (h : i < l.length) (u : BagV) : (l.set i u).getD i bag0 = u := by
  rw [List.getD_eq_getElem?_getD, List.getElem?_set_self h]; rfl
theorem play_bag (s : Str) (l : List CarryV) (n : Int) (hn : 0 ≤ n ∧ n ≤ 31) : (playB s l)[n.toNat]? = some ((playB s l).getD n.toNat bag0) := by
  have hlt : n.toNat < (playB s l).length := by rw [playB_len]; omega
  rw [List.getD_eq_getElem?_getD, List.getElem?_eq_getElem hlt]; rfl
theorem play_inv {s : Str} {l : List CarryV} (h : playE s l = 0) : Inv s (run s log0 l).1 := by
  obtain ⟨hs, hl, _⟩ := play_0 h
  exact Inv.run hs l log0 (Inv.start hs) (log_ok hl)
/-- What a valid carry that was done has shown. -/
theorem play_done {s : Str} {l : List CarryV} {k : Nat} {c : CarryV} (h : playE s l = 0) (hc : l[k]? = some c) : COk s c ∧ Done s (run s log0 (l.take k)).1 c ∧ (bagAt (run s log0 (l.take k)).1 c.bag) = (playB s (l.take k)).getD c.bag.toNat bag0 ∧ Inv s (run s log0 (l.take k)).1 := by
  have hk : k < l.length := (List.getElem?_eq_some_iff.1 hc).1
  have hco := log_ok (play_0 h).2.1 c (List.mem_of_getElem? hc)
  have h1 := (play_take h (k := k) (by omega)).1
  refine ⟨hco, Done.of hco.kind (run_step (play_run h).1 hc).1, ?_, play_inv h1⟩
  rw [(play_run h1).2.1]; rfl
theorem roomK_0 (s : Str) (l : List CarryV) (bag : Int) (hb : 0 ≤ bag ∧ bag ≤ 31) : roomK s l bag 0 = 0 := by
  have e : playB s (l.take 0) = bags0 := by
    unfold playB
    split
    · rw [List.take_zero]; rfl
    · rfl
  unfold roomK
  rw [e, List.getD_eq_getElem?_getD, List.getElem?_replicate, if_pos (by omega)]; rfl
theorem roomK_no {s : Str} {l : List CarryV} {bag : Int} {k : Nat} {c : CarryV} (h : playE s l = 0) (hb : 0 ≤ bag) (hc : l[k]? = some c) (e : c.bag ≠ bag) : roomK s l bag (k + 1) = roomK s l bag k := by
  have h1 := (log_ok (play_0 h).2.1 c (List.mem_of_getElem? hc)).bag
  unfold roomK
  rw [play_next h hc, getD_set_ne (by omega)]
theorem roomK_yes {s : Str} {l : List CarryV} {bag : Int} {k : Nat} {c : CarryV} (h : playE s l = 0) (hb : 0 ≤ bag ∧ bag ≤ 31) (hc : l[k]? = some c) (e : c.bag = bag) :
    (c.kind = 1 ∨ c.kind = 2 → roomK s l bag (k + 1) = c.to_) ∧ (c.kind = 3 ∨ c.kind = 4 → roomK s l bag (k + 1) = roomK s l bag k) ∧ (c.kind = 5 → roomK s l bag (k + 1) = 0) ∧ (c.kind ≠ 1 → roomK s l bag k ≠ 0) ∧ 1 ≤ c.kind ∧ c.kind ≤ 5 := by
  obtain ⟨hco, hd, hbg, _⟩ := play_done h hc
  have hr : roomK s l bag (k + 1) = (newBag ((playB s (l.take k)).getD bag.toNat bag0) c).room := by
    unfold roomK
    rw [play_next h hc, e, getD_set_eq (by rw [playB_len]; omega)]
  rw [e] at hbg
  have hz : roomK s l bag k = (bagAt (run s log0 (l.take k)).1 c.bag).room := by rw [e, hbg]; rfl
  refine ⟨fun hk => ?_, fun hk => ?_, fun hk => ?_, fun hk => ?_, hco.kind⟩
  · rw [hr, newBag]
    rcases hk with hk | hk
    · rw [if_pos hk]
    · rw [if_neg (by omega), if_pos hk]
  · rw [hr, newBag, if_neg (by omega), if_neg (by omega)]
    rcases hk with hk | hk
    · rw [if_pos hk]; rfl
    · rw [if_neg (by omega), if_pos hk]; rfl
  · rw [hr, newBag, if_neg (by omega), if_neg (by omega), if_neg (by omega), if_neg (by omega)]
  · rw [hz]
    cases hd with
    | in_ k1 => exact absurd k1 hk
    | move _ h1 => exact h1
    | check _ h1 => exact h1
    | open_ _ h1 => exact h1
    | out _ h1 => exact h1
theorem since_last {s : Str} {l : List CarryV} {bag : Int} (h : playE s l = 0) (hb : 0 ≤ bag ∧ bag ≤ 31) : ∀ k, k ≤ l.length → roomK s l bag k ≠ 0 → roomK s l bag k ∈ sinceL s l bag k
  | 0, _, hr => absurd (roomK_0 s l bag hb) hr
  | k + 1, hk, hr => by
    have hc : l[k]? = some l[k] := List.getElem?_eq_getElem hk
    by_cases e : (l[k]).bag = bag
    · rw [since_yes hc e]
      exact List.mem_append_right _ (List.mem_singleton.2 rfl)
    · rw [since_no hc e, roomK_no h hb.1 hc e]
      rw [roomK_no h hb.1 hc e] at hr
      exact since_last h hb k (by omega) hr
theorem susp_0 {s : Str} {l : List CarryV} {bag : Int} (h : suspE s l bag = 0) : playE s l = 0 ∧ (0 ≤ bag ∧ bag ≤ 31) ∧ roomK s l bag l.length ≠ 0 := by
  unfold suspE at h
  by_cases h1 : playE s l = 0
  · rw [if_pos h1] at h
    by_cases h2 : btw 0 bag 31 = true
    · rw [if_pos h2] at h
      refine ⟨h1, btw_t.1 h2, fun h3 => ?_⟩
      unfold roomK at h3
      rw [List.take_length] at h3
      rw [if_pos h3] at h; omega
    · rw [if_neg h2] at h; omega
  · rw [if_neg h1] at h; exact absurd h h1
theorem susp_lt {s : Str} (l : List Int) : ∀ x ∈ l.flatMap fun r => groupsV s r.toNat, x < 64 := fun x hx => by
  obtain ⟨r, _, hr⟩ := List.mem_flatMap.1 hx
  exact minL_lt hr
/-- Whoever was in one of the rooms is a suspect. -/
theorem swap_law {s : Str} {l : List CarryV} {bag : Int} (h : suspE s l bag = 0) {r : Int} (hr : r ∈ sinceL s l bag l.length) {g : Nat} (hg : g < 2 ^ s.staff.length) (hb : (reachV s g).testBit r.toNat = true) : (suspV s l bag).any (fun x => hasN g x) = true := by
  obtain ⟨h1, h2, _⟩ := susp_0 h
  obtain ⟨hs, _, _⟩ := play_0 h1
  rw [reach_some hs hg, List.any_eq_true] at hb
  obtain ⟨x, hx, hxg⟩ := hb
  have hF := susp_lt (s := s) (sinceL s l bag l.length)
  obtain ⟨t, ht, hts⟩ := minL_under hF (List.mem_flatMap.2 ⟨r, hr, hx⟩)
  rw [List.any_eq_true]
  refine ⟨t, by rw [suspV, if_pos h]; exact ht, ?_⟩
  rw [hasN_iff] at hxg ⊢
  exact hts.trans hxg
theorem bag_ok {s : Str} {l : List CarryV} {bag : Int} (h : playE s l = 0) (hb : 0 ≤ bag ∧ bag ≤ 31) (hr : roomK s l bag l.length ≠ 0) : ∃ m, BagOk s m ((playB s l).getD bag.toNat bag0) := by
  have hI := play_inv h
  have h1 := play_bag s l bag hb
  unfold roomK at hr
  rw [List.take_length] at hr
  rw [(play_run h).2.1] at h1 hr ⊢
  exact ⟨_, (hI.bags _ _ h1 hr).1⟩
theorem susp_some {s : Str} {l : List CarryV} {bag : Int} (h : suspE s l bag = 0) : suspV s l bag ≠ [] := by
  obtain ⟨h1, h2, h3⟩ := susp_0 h
  obtain ⟨hs, hl, _⟩ := play_0 h1
  obtain ⟨m, hk⟩ := bag_ok h1 h2 h3
  have hg : 2 ^ ((playB s l).getD bag.toNat bag0).by_.toNat ||| 2 ^ ((playB s l).getD bag.toNat bag0).with_.toNat < 2 ^ s.staff.length := by
    have := hk.by_
    have := hk.with_
    exact Nat.or_lt_two_pow (Nat.pow_lt_pow_right (by decide) (by omega)) (Nat.pow_lt_pow_right (by decide) (by omega))
  have h4 := swap_law h (since_last h1 h2 l.length (Nat.le_refl _) h3) hg (by unfold roomK; rw [List.take_length]; exact hk.reach)
  intro e
  rw [e] at h4
  cases h4
/-- A check behind valid carries. -/
theorem swap_check {s : Str} {l : List CarryV} {bag d wrong : Int} (h : suspE s l bag = 0) (hd : (l.getLast?.map (·.day)) = some d) (hw : 1 ≤ wrong ∧ wrong ≤ 999999) (b : BagV) (hb : (playB s l).getD bag.toNat bag0 = b) :
    (64 ≤ l.length → playE s (l ++ [⟨d, 3, bag, 0, b.by_, b.with_, wrong, 0⟩]) = 43)
    ∧ (l.length < 64 → (wrong = b.mark → playE s (l ++ [⟨d, 3, bag, 0, b.by_, b.with_, wrong, 0⟩]) = 0) ∧ (wrong ≠ b.mark → playE s (l ++ [⟨d, 3, bag, 0, b.by_, b.with_, wrong, 0⟩]) = 48 ∧ playAt s (l ++ [⟨d, 3, bag, 0, b.by_, b.with_, wrong, 0⟩]) = l.length)) := by
  obtain ⟨h1, h2, h3⟩ := susp_0 h
  obtain ⟨hs, hl, hl64⟩ := play_0 h1
  obtain ⟨m, hk⟩ := bag_ok h1 h2 h3
  rw [hb] at hk
  generalize hc : (⟨d, 3, bag, 0, b.by_, b.with_, wrong, 0⟩ : CarryV) = c
  refine ⟨fun h64 => ?_, fun h64 => ?_⟩
  · have : logB s (l ++ [c]) = false := by
      unfold logB
      rw [Bool.and_eq_false_iff, decide_eq_false_iff_not, List.length_append]
      right
      simp only [List.length_cons, List.length_nil]; omega
    unfold playE
    rw [if_pos hs, if_neg (by rw [this]; simp)]
  · have hne : l ≠ [] := by
      intro e
      rw [e] at hd; cases hd
    obtain ⟨x, hx⟩ : ∃ x, l.getLast? = some x := ⟨_, List.getLast?_eq_some_getLast hne⟩
    have hxd : x.day = d := by rw [hx] at hd; simpa using hd
    have hxo := log_ok hl x (List.mem_of_getLast? hx)
    have hd2 : d ≤ 36500 := by rw [← hxd]; exact hxo.day
    have hlb : logB s (l ++ [c]) = true := by
      unfold logB at hl ⊢
      rw [Bool.and_eq_true] at hl ⊢
      refine ⟨?_, by rw [decide_eq_true_iff, List.length_append]; simp only [List.length_cons, List.length_nil]; omega⟩
      rw [formB_app, hl.1, hd, Bool.true_and]
      show formB s d [c] = true
      rw [formB, formB, Bool.and_true]
      subst hc
      have k1 := hk.by_
      have k2 := hk.with_
      unfold carryB kindB
      simp only [Bool.and_eq_true, btw_t, Bool.not_eq_true', decide_eq_false_iff_not]
      refine ⟨⟨⟨⟨⟨⟨Int.le_refl _, hd2⟩, h2⟩, by omega⟩, by omega⟩, hk.ne⟩, ?_⟩
      have hw9 : btw 1 wrong 999999 = true := btw_t.2 hw
      simp [hw9]
    obtain ⟨p1, p2⟩ := play_of hs hlb
    have hr := run_snoc s l log0 c (play_run h1).1
    have hba : bagAt (run s log0 l).1 c.bag = b := by
      subst hc
      rw [← hb, (play_run h1).2.1]; rfl
    have hst : stepE s (run s log0 l).1 c = if b.mark = wrong then 0 else 48 := by
      unfold stepE
      rw [hba]
      have hrm := hk.room
      have hrc : (reachC s c).testBit b.room.toNat = true := by subst hc; exact hk.reach
      have hk3 : c.kind = 3 := by subst hc; rfl
      have hmk : c.mark = wrong := by subst hc; rfl
      rw [if_neg (by omega), if_neg (by omega), if_pos hrc, if_neg (by omega), if_pos hk3, hmk]
    rw [p1, p2, hr, hst]
    refine ⟨fun e => ?_, fun e => ?_⟩
    · rw [if_pos e.symm, if_pos rfl]
    · rw [if_neg (Ne.symm e), if_neg (by decide)]
      exact ⟨rfl, rfl⟩
/-! the law's loops -/
structure Sw (s : Str) (l : List CarryV) (bag : Int) (k : Nat) (rs : List Int) : Prop where
  le : k ≤ l.length
  rms : sinceL s l bag l.length = sinceL s l bag k ++ rs.reverse
  ne : roomK s l bag k ≠ 0
theorem Sw.start {s : Str} {l : List CarryV} {bag : Int} (h : suspE s l bag = 0) : Sw s l bag l.length [] := ⟨Nat.le_refl _, by simp, (susp_0 h).2.2⟩
theorem Sw.other {s : Str} {l : List CarryV} {bag : Int} (h : suspE s l bag = 0) {k : Nat} {rs : List Int} (hw : Sw s l bag (k + 1) rs) {c : CarryV} (hc : l[k]? = some c) (e : c.bag ≠ bag) : Sw s l bag k rs := by
  obtain ⟨h1, h2, _⟩ := susp_0 h
  exact ⟨by have := hw.le; omega, by rw [hw.rms, since_no hc e], by rw [← roomK_no h1 h2.1 hc e]; exact hw.ne⟩
theorem Sw.move {s : Str} {l : List CarryV} {bag : Int} (h : suspE s l bag = 0) {k : Nat} {rs : List Int} (hw : Sw s l bag (k + 1) rs) {c : CarryV} (hc : l[k]? = some c) (e : c.bag = bag) (k2 : c.kind = 2) : Sw s l bag k (rs ++ [c.to_]) := by
  obtain ⟨h1, h2, _⟩ := susp_0 h
  obtain ⟨p1, _, _, p4, _⟩ := roomK_yes h1 h2 hc e
  refine ⟨by have := hw.le; omega, ?_, p4 (by omega)⟩
  rw [hw.rms, since_yes hc e, if_pos k2]
  have : ((playB s (l.take (k + 1))).getD bag.toNat bag0).room = c.to_ := p1 (.inr k2)
  rw [this]; simp
theorem Sw.in_ {s : Str} {l : List CarryV} {bag : Int} (h : suspE s l bag = 0) {k : Nat} {rs : List Int} (hw : Sw s l bag (k + 1) rs) {c : CarryV} (hc : l[k]? = some c) (e : c.bag = bag) (k1 : c.kind = 1) : sinceL s l bag l.length = (rs ++ [c.to_]).reverse := by
  obtain ⟨h1, h2, _⟩ := susp_0 h
  obtain ⟨p1, _⟩ := roomK_yes h1 h2 hc e
  rw [hw.rms, since_yes hc e, if_neg (by omega)]
  have : ((playB s (l.take (k + 1))).getD bag.toNat bag0).room = c.to_ := p1 (.inl k1)
  rw [this]; simp
/-- Behind a check: the place is the one into which it was brought before. -/
structure Sx_ (s : Str) (l : List CarryV) (bag : Int) (r : Int) (k : Nat) : Prop where
  le : k ≤ l.length
  at_ : roomK s l bag k = r
  ne : r ≠ 0
theorem Sw.stay {s : Str} {l : List CarryV} {bag : Int} (h : suspE s l bag = 0) {k : Nat} {rs : List Int} (hw : Sw s l bag (k + 1) rs) {c : CarryV} (hc : l[k]? = some c) (e : c.bag = bag) (k1 : c.kind ≠ 1) (k2 : c.kind ≠ 2) : sinceL s l bag l.length = (rs ++ [roomK s l bag (k + 1)]).reverse ∧ Sx_ s l bag (roomK s l bag (k + 1)) k := by
  obtain ⟨h1, h2, _⟩ := susp_0 h
  obtain ⟨p1, p2, p3, p4, p5⟩ := roomK_yes h1 h2 hc e
  have hne := hw.ne
  have hk : c.kind = 3 ∨ c.kind = 4 := by
    by_cases h5 : c.kind = 5
    · exact absurd (p3 h5) hne
    · omega
  refine ⟨?_, ⟨by have := hw.le; omega, (p2 hk).symm, hne⟩⟩
  rw [hw.rms, since_yes hc e, if_neg k2]
  show [] ++ [roomK s l bag (k + 1)] ++ rs.reverse = _
  simp
theorem Sx_.end_ {s : Str} {l : List CarryV} {bag r : Int} (h : suspE s l bag = 0) (hx : Sx_ s l bag r 0) : False := hx.ne (by rw [← hx.at_]; exact roomK_0 s l bag (susp_0 h).2.1)
theorem Sw.end_ {s : Str} {l : List CarryV} {bag : Int} {rs : List Int} (h : suspE s l bag = 0) (hx : Sw s l bag 0 rs) : False := hx.ne (roomK_0 s l bag (susp_0 h).2.1)
theorem Sx_.found {s : Str} {l : List CarryV} {bag r : Int} (h : suspE s l bag = 0) {k : Nat} (hx : Sx_ s l bag r (k + 1)) {c : CarryV} (hc : l[k]? = some c) (e : c.bag = bag) (hk : c.kind = 1 ∨ c.kind = 2) : c.to_ = r := by
  obtain ⟨h1, h2, _⟩ := susp_0 h
  rw [← hx.at_, (roomK_yes h1 h2 hc e).1 hk]
theorem Sx_.on {s : Str} {l : List CarryV} {bag r : Int} (h : suspE s l bag = 0) {k : Nat} (hx : Sx_ s l bag r (k + 1)) {c : CarryV} (hc : l[k]? = some c) (e : ¬ (c.bag = bag ∧ (c.kind = 1 ∨ c.kind = 2))) : Sx_ s l bag r k := by
  obtain ⟨h1, h2, _⟩ := susp_0 h
  have hle := hx.le
  refine ⟨by omega, ?_, hx.ne⟩
  by_cases eb : c.bag = bag
  · obtain ⟨_, p2, p3, _, p5⟩ := roomK_yes h1 h2 hc eb
    have hn : ¬ (c.kind = 1 ∨ c.kind = 2) := fun hk => e ⟨eb, hk⟩
    have : c.kind ≠ 5 := fun h5 => hx.ne (by rw [← hx.at_, p3 h5])
    rw [← p2 (by omega), hx.at_]
  · rw [← roomK_no h1 h2.1 hc eb, hx.at_]
end Vm
namespace Vm
open Go.Proofs.YtomidcehahdmbaaGreat
def roomsV (s : Str) (l : List CarryV) (k : Nat) : List Int := (playB s (l.take k)).map (·.room)
theorem rooms_len (s : Str) (l : List CarryV) (k : Nat) : (roomsV s l k).length = 32 := by unfold roomsV; rw [List.length_map, playB_len]
theorem rooms_0 (s : Str) (l : List CarryV) : roomsV s l 0 = List.replicate 32 0 := by
  have e : playB s (l.take 0) = bags0 := by
    unfold playB
    split
    · rw [List.take_zero]; rfl
    · rfl
  unfold roomsV
  rw [e, List.map_replicate]
theorem rooms_at {s : Str} {l : List CarryV} {k : Nat} {n : Int} (hn : 0 ≤ n ∧ n ≤ 31) : (roomsV s l k)[n.toNat]? = some (roomK s l n k) := by
  unfold roomsV roomK
  rw [List.getElem?_map, play_bag s (l.take k) n hn]; rfl
/-- What a carry did to the rooms. -/
theorem rooms_step {s : Str} {l : List CarryV} {k : Nat} {c : CarryV} (h : playE s l = 0) (hc : l[k]? = some c) :
    (c.kind = 1 ∨ c.kind = 2 → roomsV s l (k + 1) = (roomsV s l k).set c.bag.toNat c.to_) ∧ (c.kind = 5 → roomsV s l (k + 1) = (roomsV s l k).set c.bag.toNat 0) ∧ (c.kind = 3 ∨ c.kind = 4 → roomsV s l (k + 1) = roomsV s l k) := by
  have hco := log_ok (play_0 h).2.1 c (List.mem_of_getElem? hc)
  have hb := hco.bag
  have hy := roomK_yes h hb hc rfl
  have hs : roomsV s l (k + 1) = (roomsV s l k).set c.bag.toNat (roomK s l c.bag (k + 1)) := by
    unfold roomsV
    have e : roomK s l c.bag (k + 1) = (newBag ((playB s (l.take k)).getD c.bag.toNat bag0) c).room := by
      unfold roomK
      rw [play_next h hc, getD_set_eq (by rw [playB_len]; omega)]
    rw [e, play_next h hc, List.map_set]
  refine ⟨fun k1 => by rw [hs, hy.1 k1], fun k5 => by rw [hs, hy.2.2.1 k5], fun k3 => ?_⟩
  rw [hs, hy.2.1 k3]
  have h1 := rooms_at (s := s) (l := l) (k := k) hb
  obtain ⟨h2, h3⟩ := List.getElem?_eq_some_iff.1 h1
  rw [← h3, List.set_getElem_self]
theorem room_bd {s : Str} {l : List CarryV} {k : Nat} (n : Int) (hn : 0 ≤ n ∧ n ≤ 31) : 0 ≤ roomK s l n k ∧ roomK s l n k ≤ 5 := play_num (s := s) (l.take k) hn
theorem reach_hall (s : Str) (g : Nat) : (reachV s g).testBit 0 = true := (reachF_sub s g _ 1) 0 (by decide)
/-- Those who carry reach where the bag was, and where it is. -/
theorem rooms_reach {s : Str} {l : List CarryV} {k : Nat} {c : CarryV} (h : playE s l = 0) (hc : l[k]? = some c) : (reachC s c).testBit (roomK s l c.bag k).toNat = true ∧ (reachC s c).testBit (roomK s l c.bag (k + 1)).toNat = true := by
  obtain ⟨hco, hd, hbg, hI⟩ := play_done h hc
  have hb := hco.bag
  have hy := roomK_yes h hb hc rfl
  have hz : roomK s l c.bag k = (bagAt (run s log0 (l.take k)).1 c.bag).room := by rw [hbg]; rfl
  rw [hz]
  cases hd with
  | in_ k1 h1 h2 =>
    rw [hy.1 (.inl k1)]
    refine ⟨?_, h2⟩
    have h9 : (bagAt (run s log0 (l.take k)).1 c.bag).room = 0 := by
      refine Decidable.byContradiction fun hne => ?_
      have h3 := (hI.bags _ _ (bagAt_get hI hb) hne).2
      rw [List.getD_eq_getElem?_getD, h3] at h1; cases h1
    rw [h9]
    exact reach_hall s (grpC c)
  | move k2 h1 h2 h3 => rw [hy.1 (.inr k2)]; exact ⟨h2, h3⟩
  | check k3 h1 h2 => rw [hy.2.1 (.inl k3), hz]; exact ⟨h2, h2⟩
  | open_ k4 h1 h2 => rw [hy.2.1 (.inr k4), hz]; exact ⟨h2, h2⟩
  | out k5 h1 h2 =>
    rw [hy.2.2.1 k5]
    exact ⟨h2, reach_hall s (grpC c)⟩
/-! where -/
theorem fidx_none {α : Type} (q : α → Bool) : ∀ (l : List α) (i : Int), (∀ x ∈ l, q x = false) → fidx q l i = -1
  | [], _, _ => rfl
  | x :: l, i, h => by
    rw [fidx, if_neg (by rw [h x (List.mem_cons_self ..)]; simp)]
    exact fidx_none q l _ fun y hy => h y (List.mem_cons_of_mem _ hy)
theorem fidx_at {α : Type} (q : α → Bool) : ∀ (l : List α) (i : Int) (k : Nat) (y : α), (∀ x ∈ l.take k, q x = false) → l[k]? = some y → q y = true → fidx q l i = i + k
  | [], _, _, _, _, h, _ => by cases h
  | x :: l, i, 0, y, _, h, hy => by
    have e : x = y := by simpa using h
    subst e
    rw [fidx, if_pos hy]; simp
  | x :: l, i, k + 1, y, h, hk, hy => by
    rw [List.take_succ_cons] at h
    rw [fidx, if_neg (by rw [h x (List.mem_cons_self ..)]; simp), fidx_at q l (i + 1) k y (fun z hz => h z (List.mem_cons_of_mem _ hz)) (by simpa using hk) hy]
    omega
theorem days_take {s : Str} {l : List CarryV} (h : logB s l = true) {k : Nat} {c : CarryV} (hc : l[k]? = some c) : 0 ≤ c.day ∧ c.day ≤ 36500 ∧ ∀ x ∈ l.take (k + 1), x.day ≤ c.day := by
  have h9 := h
  unfold logB at h9
  rw [Bool.and_eq_true] at h9
  obtain ⟨h1, h2⟩ := form_days s l 0 h9.1
  refine ⟨h1 c (List.mem_of_getElem? hc), (log_ok h c (List.mem_of_getElem? hc)).day, fun x hx => ?_⟩
  rw [List.take_add_one, hc, Option.toList_some, List.mem_append, List.mem_singleton] at hx
  rcases hx with hx | rfl
  · obtain ⟨i, hi⟩ := List.getElem?_of_mem hx
    rw [List.getElem?_take] at hi
    split at hi
    · rename_i hik
      obtain ⟨a1, a2⟩ := List.getElem?_eq_some_iff.1 hi
      obtain ⟨b1, b2⟩ := List.getElem?_eq_some_iff.1 hc
      rw [← a2, ← b2]
      exact List.pairwise_iff_getElem.1 h2 _ _ _ _ hik
    · cases hi
  · exact Int.le_refl _
theorem upto_at {s : Str} {l : List CarryV} (h : logB s l = true) {k : Nat} {c : CarryV} (hc : l[k]? = some c) (hn : k + 1 = l.length ∨ ∃ d, l[k + 1]? = some d ∧ c.day < d.day) : uptoN l c.day = k + 1 := by
  obtain ⟨_, _, h3⟩ := days_take h hc
  have hq : ∀ x ∈ l.take (k + 1), (decide (c.day < x.day)) = false := fun x hx => by
    rw [decide_eq_false_iff_not]
    have := h3 x hx; omega
  unfold uptoN afterI
  rcases hn with hn | ⟨d, hd, hdd⟩
  · rw [List.take_of_length_le (by omega)] at hq
    rw [fidx_none _ _ _ hq, if_pos (by decide), hn]
  · rw [fidx_at (fun x : CarryV => decide (c.day < x.day)) l 0 (k + 1) d hq hd (decide_eq_true hdd), if_neg (by omega)]
    omega
theorem where_at {s : Str} {l : List CarryV} (h : playE s l = 0) {k : Nat} {c : CarryV} (hc : l[k]? = some c) (hn : k + 1 = l.length ∨ ∃ d, l[k + 1]? = some d ∧ c.day < d.day) {n : Int} (hb : 0 ≤ n ∧ n ≤ 31) : whereE s l n c.day = 0 ∧ whereR s l n c.day = roomK s l n (k + 1) := by
  obtain ⟨_, hl, _⟩ := play_0 h
  obtain ⟨h1, h2, _⟩ := days_take hl hc
  have he : whereE s l n c.day = 0 := by
    unfold whereE
    rw [if_pos h, btw_t.2 hb, btw_t.2 ⟨h1, h2⟩]; rfl
  refine ⟨he, ?_⟩
  rw [whereR, if_pos he, upto_at hl hc hn]; rfl
theorem play_at_le (s : Str) (l : List CarryV) (h : playE s l ≠ 0) : playAt s l ≤ l.length - 1 := by
  unfold playE at h
  unfold playAt
  by_cases hs : strB s = true
  · rw [if_pos hs] at h ⊢
    by_cases hl : logB s l = true
    · rw [if_pos hl] at h ⊢
      have := (run_le s l log0).2 h
      omega
    · rw [if_neg hl]; omega
  · rw [if_neg hs]; omega
/-! what lies in the rooms -/
def cntL (b : List BagV) : List Int := (List.range 6).map fun r : Nat => if r = 0 then 0 else (manyN b (r : Int) : Int)
theorem cnt_len (b : List BagV) : (cntL b).length = 6 := rfl
theorem cnt_nil : cntL [] = List.replicate 6 0 := rfl
theorem cnt_at (b : List BagV) {r : Int} (h : 1 ≤ r ∧ r ≤ 5) : (cntL b)[r.toNat]? = some (manyN b r : Int) := by
  unfold cntL
  rw [List.getElem?_map, List.getElem?_range (by omega)]
  dsimp only [Option.map]
  rw [if_neg (by omega), Int.toNat_of_nonneg (by omega)]
theorem cntL_step0 {b : List BagV} {k : Nat} {x : BagV} (h : b[k]? = some x) (hx : x.room = 0) : cntL (b.take (k + 1)) = cntL (b.take k) := by
  unfold cntL
  refine List.map_congr_left fun r _ => ?_
  by_cases hr : r = 0
  · rw [if_pos hr, if_pos hr]
  · rw [if_neg hr, if_neg hr, many_step _ h, if_neg (by rw [hx]; omega)]; rfl
theorem cntL_step {b : List BagV} {k : Nat} {x : BagV} (h : b[k]? = some x) (hx : 1 ≤ x.room ∧ x.room ≤ 5) : cntL (b.take (k + 1)) = (cntL (b.take k)).set x.room.toNat ((manyN (b.take k) x.room : Int) + 1) := by
  refine List.ext_getElem? fun i => ?_
  by_cases hi : i < 6
  · by_cases e : x.room.toNat = i
    · rw [List.getElem?_set, if_pos e, if_pos (by rw [cnt_len]; omega)]
      rw [← e, cnt_at _ hx, many_step _ h, if_pos rfl]; simp
    · rw [List.getElem?_set_ne e]
      unfold cntL
      rw [List.getElem?_map, List.getElem?_map, List.getElem?_range hi]
      dsimp only [Option.map]
      by_cases hr : i = 0
      · rw [if_pos hr, if_pos hr]
      · rw [if_neg hr, if_neg hr, many_step _ h, if_neg (by omega)]; rfl
  · rw [List.getElem?_eq_none (by rw [cnt_len]; omega), List.getElem?_eq_none (by rw [List.length_set, cnt_len]; omega)]
theorem many_mono (b : List BagV) (k : Nat) (r : Int) : manyN (b.take k) r ≤ manyN b r := by
  unfold manyN
  conv => rhs; rw [← List.take_append_drop k b, List.countP_append]
  omega
/-- A bag that lies in a room. -/
theorem store_law {s : Str} {l : List CarryV} (h : playE s l = 0) {k : Nat} {x : BagV} (hx : (playB s l)[k]? = some x) :
    0 ≤ x.room ∧ x.room < s.rooms.length ∧ x.room ≤ 5 ∧ (x.room ≠ 0 → (manyN ((playB s l).take (k + 1)) x.room : Int) ≤ (roomAt s x.room).hold ∧ s.rooms[x.room.toNat]? = some (roomAt s x.room) ∧ 0 ≤ (roomAt s x.room).climate ∧ (roomAt s x.room).climate ≤ 3 ∧ 0 ≤ x.suits ∧ x.suits ≤ 15 ∧ x.suits.toNat.testBit (roomAt s x.room).climate.toNat = true
      ∧ ∀ i y, i < k → (playB s l)[i]? = some y → y.room ≠ 0 → y.mark ≠ x.mark) := by
  have hI := play_inv h
  have hB := (play_run h).2.1
  obtain ⟨hs, _, _⟩ := play_0 h
  have hr1 := (rooms_le hs).1
  rw [hB] at hx ⊢
  have hn := hI.nums _ _ hx
  by_cases h0 : x.room = 0
  · exact ⟨hn.1, by omega, hn.2.1, fun h => absurd h0 h⟩
  · obtain ⟨hk, _⟩ := hI.bags _ _ hx h0
    have hrm := hk.room
    obtain ⟨r1, r2, r3, r4, r5⟩ := roomAt_ok hs (show 0 ≤ x.room by omega) hrm.2
    have hh := hI.holds x.room hrm.1 hrm.2
    have hm := many_mono (run s log0 l).1.bags (k + 1) x.room
    refine ⟨hn.1, hrm.2, hn.2.1, fun _ => ⟨by omega, r1, r4, r5, hk.suits.1, hk.suits.2.1, hk.suits.2.2, fun i y hi hy hyr => hI.seals i k y x hy hx hyr h0 (by omega)⟩⟩
end Vm
namespace Go.Proofs.YtomidcehahdmbaaGreat
open Go Go.Sx Go.RowKit Vm
theorem bf_cell {l : List BagV} {k : Nat} {b : BagV} (h : l[k]? = some b) {j : Nat} (hj : j < 5) : (l.flatMap encBa)[0 + k * 5 + j]? = (encBa b)[j]? := by
  rw [Nat.zero_add]
  exact flatMap_get encBa 5 enBa_len _ _ _ j h hj
theorem bit_rng {s : Str} {c : CarryV} (h : COk s c) (hs : strB s = true) : 0 ≤ c.by_ ∧ c.by_ ≤ 5 ∧ 0 ≤ c.with_ ∧ c.with_ ≤ 5 := by
  have h1 := (rooms_le hs).2.2.2.1
  have h2 := h.by_
  have h3 := h.with_
  omega
end Go.Proofs.YtomidcehahdmbaaGreat
namespace Vm
open Go.Proofs.YtomidcehahdmbaaGreat
structure HS where
  st : LogV
  ever : List Int
  since : List Int
def sinN (since : List Int) (st : LogV) (c : CarryV) : List Int :=
  if c.kind = 1 then since.set c.bag.toNat ((2 ^ c.to_.toNat : Nat) : Int)
  else if c.kind = 2 then since.set c.bag.toNat (((since.getD c.bag.toNat 0).toNat ||| 2 ^ c.to_.toNat : Nat) : Int)
  else if c.kind = 3 ∨ c.kind = 4 then since.set c.bag.toNat ((2 ^ (bagAt st c.bag).room.toNat : Nat) : Int)
  else since
def evN (ever : List Int) (c : CarryV) : List Int := if c.kind = 1 then ever ++ [c.bag] else ever
def hstep (h : HS) (c : CarryV) : HS := ⟨stepN h.st c, evN h.ever c, sinN h.since h.st c⟩
def hs0 : HS := ⟨log0, [], List.replicate 32 0⟩
def hrun (l : List CarryV) : Nat → HS
  | 0 => hs0
  | k + 1 => match l[k]? with
    | none => hrun l k
    | some c => hstep (hrun l k) c
theorem hrun_s {l : List CarryV} {k : Nat} {c : CarryV} (hc : l[k]? = some c) : hrun l (k + 1) = hstep (hrun l k) c := by
  rw [hrun, hc]
structure Hok (s : Str) (k : Nat) (h : HS) : Prop where
  inv : Inv s h.st
  ev : ∀ n : Int, 0 ≤ n → n ≤ 31 → h.ever.contains n = h.st.there.getD n.toNat false
  len : h.since.length = 32
  bd : ∀ x ∈ h.since, 0 ≤ x ∧ x < 64
  el : h.ever.length ≤ k
  sl : h.st.seals.length ≤ k
theorem Hok.start {s : Str} (hs : strB s = true) : Hok s 0 hs0 where
  inv := Inv.start hs
  ev := fun n h1 h2 => by
    show ([] : List Int).contains n = (List.replicate 32 false).getD n.toNat false
    rw [List.getD_eq_getElem?_getD, List.getElem?_replicate, if_pos (by omega)]; rfl
  len := rfl
  bd := fun x hx => by
    have : x = 0 := (List.mem_replicate.1 hx).2
    omega
  el := Nat.le_refl _
  sl := Nat.le_refl _
theorem pow_64 {n : Int} (h : n ≤ 5) : 2 ^ n.toNat < 64 := Nat.lt_of_le_of_lt (Nat.pow_le_pow_right (by decide) (by omega : n.toNat ≤ 5)) (by decide)
theorem getD_bd {l : List Int} (h : ∀ x ∈ l, 0 ≤ x ∧ x < 64) (i : Nat) : 0 ≤ l.getD i 0 ∧ l.getD i 0 < 64 := by
  rw [List.getD_eq_getElem?_getD]
  cases hi : l[i]? with
  | none => simp
  | some x => exact h x (List.mem_of_getElem? hi)
theorem Hok.step {s : Str} {k : Nat} {h : HS} {c : CarryV} (hs : strB s = true) (hh : Hok s k h) (hc : COk s c) (he : stepE s h.st c = 0) : Hok s (k + 1) (hstep h c) := by
  have hrl := (rooms_le hs).2.1
  have hto : c.to_ ≤ 5 := by
    by_cases h1 : c.kind = 1 ∨ c.kind = 2
    · have := hc.to1 h1; omega
    · have := hc.to0 h1; omega
  have hbr := hh.inv.nums _ _ (bagAt_get hh.inv hc.bag)
  have h0 := getD_bd hh.bd c.bag.toNat
  have hp := pow_64 hto
  have hor : (h.since.getD c.bag.toNat 0).toNat ||| 2 ^ c.to_.toNat < 64 := Nat.or_lt_two_pow (n := 6) (by omega) hp
  refine ⟨hh.inv.step hs hc he, ?_, ?_, ?_, ?_, ?_⟩
  · intro n h1 h2
    show (evN h.ever c).contains n = (stepN h.st c).there.getD n.toNat false
    unfold evN stepN
    by_cases k1 : c.kind = 1
    · rw [if_pos k1]
      show _ = (if c.kind = 1 then h.st.there.set c.bag.toNat true else h.st.there).getD n.toNat false
      have hbb := hc.bag
      rw [if_pos k1, List.getD_eq_getElem?_getD, List.getElem?_set, hh.inv.lenT]
      have hev := hh.ev n h1 h2
      rw [List.getD_eq_getElem?_getD] at hev
      by_cases e : c.bag = n
      · rw [if_pos (by rw [e]), if_pos (by omega)]
        simp [e]
      · rw [if_neg (by omega), ← hev, Bool.eq_iff_iff, List.contains_iff_mem, List.contains_iff_mem, List.mem_append, List.mem_singleton]
        exact ⟨fun hm => hm.elim id (fun e2 => absurd e2.symm e), .inl⟩
    · rw [if_neg k1]
      show _ = (if c.kind = 1 then h.st.there.set c.bag.toNat true else h.st.there).getD n.toNat false
      rw [if_neg k1]
      exact hh.ev n h1 h2
  · show (sinN h.since h.st c).length = 32
    unfold sinN
    split
    · rw [List.length_set]; exact hh.len
    · split
      · rw [List.length_set]; exact hh.len
      · split
        · rw [List.length_set]; exact hh.len
        · exact hh.len
  · intro x hx
    have hx : x ∈ sinN h.since h.st c := hx
    unfold sinN at hx
    have hset : ∀ (v : Nat), v < 64 → x ∈ h.since.set c.bag.toNat (v : Int) → 0 ≤ x ∧ x < 64 := fun v hv hm => by
      rcases List.mem_or_eq_of_mem_set hm with hm | hm
      · exact hh.bd x hm
      · omega
    split at hx
    · exact hset _ hp hx
    · split at hx
      · exact hset _ hor hx
      · split at hx
        · exact hset _ (pow_64 hbr.2.1) hx
        · exact hh.bd x hx
  · show (evN h.ever c).length ≤ k + 1
    have := hh.el
    unfold evN
    split
    · rw [List.length_append]; simp only [List.length_cons, List.length_nil]; omega
    · omega
  · show (if c.kind = 1 ∨ c.kind = 4 then h.st.seals ++ [c.mark] else h.st.seals).length ≤ k + 1
    have := hh.sl
    split
    · rw [List.length_append]; simp only [List.length_cons, List.length_nil]; omega
    · omega
/-! refused, in the reference's words -/
def ref1 (h : HS) (c : CarryV) : Bool := (c.kind == 1) && h.ever.contains c.bag || !(c.kind == 1) && ((bagAt h.st c.bag).room == 0)
def ref2 (s : Str) (h : HS) (c : CarryV) : Bool := !(c.kind == 1) && !((reachC s c).testBit (bagAt h.st c.bag).room.toNat) || ((c.kind == 1) || (c.kind == 2)) && !((reachC s c).testBit c.to_.toNat)
def ref3 (s : Str) (h : HS) (c : CarryV) : Bool := (c.kind == 2) && (c.to_ == (bagAt h.st c.bag).room) || ((c.kind == 1) || (c.kind == 2)) && decide ((roomAt s c.to_).hold ≤ (manyN h.st.bags c.to_ : Int))
def ref4 (s : Str) (h : HS) (c : CarryV) : Bool := ((c.kind == 1) || (c.kind == 2)) && !((if c.kind = 1 then c.suits else (bagAt h.st c.bag).suits).toNat.testBit (roomAt s c.to_).climate.toNat)
def ref5 (h : HS) (c : CarryV) : Bool := (c.kind == 3) && (c.mark != (bagAt h.st c.bag).mark) || ((c.kind == 1) || (c.kind == 4)) && h.st.seals.contains c.mark
def refE (s : Str) (h : HS) (c : CarryV) : Int := if ref1 h c = true then 44 else if ref2 s h c = true then 45 else if ref3 s h c = true then 46 else if ref4 s h c = true then 47 else if ref5 h c = true then 48 else 0
theorem refE_eq {s : Str} {k : Nat} {h : HS} {c : CarryV} (hh : Hok s k h) (hc : COk s c) : refE s h c = stepE s h.st c := by
  have hev := hh.ev c.bag hc.bag.1 hc.bag.2
  have hk := hc.kind
  unfold refE stepE putE ref1 ref2 ref3 ref4 ref5
  rw [hev]
  generalize h.st.there.getD c.bag.toNat false = th
  generalize bagAt h.st c.bag = b
  generalize reachC s c = R
  generalize roomAt s c.to_ = rm
  generalize manyN h.st.bags c.to_ = mn
  generalize h.st.seals.contains c.mark = se
  have hd : ∀ a b : Int, decide (a ≤ b) = !decide (b < a) := fun a b => by rw [Bool.eq_iff_iff, decide_eq_true_iff]; simp
  have q1 : (c.to_ == b.room) = decide (b.room = c.to_) := by rw [Bool.eq_iff_iff, beq_iff_eq, decide_eq_true_iff]; exact eq_comm
  have q2 : (c.mark != b.mark) = !decide (b.mark = c.mark) := by rw [bne, show (c.mark == b.mark) = decide (b.mark = c.mark) by rw [Bool.eq_iff_iff, beq_iff_eq, decide_eq_true_iff]; exact eq_comm]
  rw [hd, q1, q2]
  generalize R.testBit c.to_.toNat = rt
  generalize R.testBit b.room.toNat = rb
  rcases (show c.kind = 1 ∨ c.kind = 2 ∨ c.kind = 3 ∨ c.kind = 4 ∨ c.kind = 5 by omega) with e | e | e | e | e
  · rw [show (if c.kind = 1 then c.suits else b.suits) = c.suits from if_pos e, e]
    generalize c.suits.toNat.testBit rm.climate.toNat = sb
    cases th <;> cases rt <;> cases sb <;> cases se <;> by_cases hm : (mn : Int) < rm.hold <;> simp [hm]
  · rw [show (if c.kind = 1 then c.suits else b.suits) = b.suits from if_neg (by omega), e]
    generalize b.suits.toNat.testBit rm.climate.toNat = sb
    by_cases h1 : b.room = 0 <;> by_cases h2 : b.room = c.to_ <;> cases rb <;> cases rt <;> cases sb <;> by_cases hm : (mn : Int) < rm.hold <;> simp [h1, h2, hm]
  · rw [e]
    by_cases h1 : b.room = 0 <;> cases rb <;> by_cases hm : b.mark = c.mark <;> simp [h1, hm]
  · rw [e]
    by_cases h1 : b.room = 0 <;> cases rb <;> cases se <;> simp [h1]
  · rw [e]
    by_cases h1 : b.room = 0 <;> cases rb <;> simp [h1]
/-! since, as a set -/
theorem hrun_st {s : Str} {l : List CarryV} (h : playE s l = 0) : ∀ k, k ≤ l.length → (hrun l k).st = (run s log0 (l.take k)).1
  | 0, _ => by rw [List.take_zero]; rfl
  | k + 1, hk => by
    have hc : l[k]? = some l[k] := List.getElem?_eq_getElem hk
    rw [hrun_s hc, (run_step (play_run h).1 hc).2, ← hrun_st h k (by omega)]; rfl
theorem hrun_ok {s : Str} {l : List CarryV} (h : playE s l = 0) : ∀ k, k ≤ l.length → Hok s k (hrun l k)
  | 0, _ => Hok.start (play_0 h).1
  | k + 1, hk => by
    have hc : l[k]? = some l[k] := List.getElem?_eq_getElem hk
    rw [hrun_s hc]
    refine (hrun_ok h k (by omega)).step (play_0 h).1 (log_ok (play_0 h).2.1 _ (List.mem_of_getElem? hc)) ?_
    rw [hrun_st h k (by omega)]
    exact (run_step (play_run h).1 hc).1
theorem hrun_room {s : Str} {l : List CarryV} (h : playE s l = 0) {k : Nat} (hk : k ≤ l.length) (n : Int) : (bagAt (hrun l k).st n).room = roomK s l n k := by
  rw [hrun_st h k hk]
  unfold roomK
  rw [(play_run (play_take h hk).1).2.1]; rfl
theorem getI_set_ne {l : List Int} {i j : Nat} (h : i ≠ j) (u : Int) : (l.set i u).getD j 0 = l.getD j 0 := by
  rw [List.getD_eq_getElem?_getD, List.getD_eq_getElem?_getD, List.getElem?_set_ne h]
theorem getI_set_eq {l : List Int} {i : Nat} (h : i < l.length) (u : Int) : (l.set i u).getD i 0 = u := by
  rw [List.getD_eq_getElem?_getD, List.getElem?_set_self h]; rfl
theorem pow_bit (a : Int) (ha : 0 ≤ a) (r : Nat) : (((2 ^ a.toNat : Nat) : Int)).toNat.testBit r = true ↔ (r : Int) = a := by
  rw [Int.toNat_natCast, Nat.testBit_two_pow, decide_eq_true_iff]; omega
/-- The set of rooms is the list of rooms, as long as the bag is there. -/
theorem since_set {s : Str} {l : List CarryV} (h : playE s l = 0) {n : Int} (hn : 0 ≤ n ∧ n ≤ 31) : ∀ k, k ≤ l.length → roomK s l n k ≠ 0 → ∀ r : Nat, ((hrun l k).since.getD n.toNat 0).toNat.testBit r = true ↔ (r : Int) ∈ sinceL s l n k
  | 0, _, hr => absurd (roomK_0 s l n hn) hr
  | k + 1, hk, hr => fun r => by
    have hc : l[k]? = some l[k] := List.getElem?_eq_getElem hk
    have hlen := (hrun_ok h k (by omega)).len
    have hco := log_ok (play_0 h).2.1 _ (List.mem_of_getElem? hc)
    have hcb := hco.bag
    rw [hrun_s hc]
    show ((sinN (hrun l k).since (hrun l k).st l[k]).getD n.toNat 0).toNat.testBit r = true ↔ _
    by_cases e : (l[k]).bag = n
    · obtain ⟨p1, p2, p3, p4, p5⟩ := roomK_yes h hn hc e
      have hto : (l[k]).kind = 1 ∨ (l[k]).kind = 2 → 0 ≤ (l[k]).to_ := fun hk => by have := hco.to1 hk; omega
      have hlt : n.toNat < (hrun l k).since.length := by omega
      have hin : ∀ x, ((playB s (l.take (k + 1))).getD n.toNat bag0).room = x → roomK s l n (k + 1) = x := fun x hx => hx
      rw [since_yes hc e]
      show _ ↔ (r : Int) ∈ (if (l[k]).kind = 2 then sinceL s l n k else []) ++ [roomK s l n (k + 1)]
      unfold sinN
      rw [e]
      by_cases k1 : (l[k]).kind = 1
      · rw [if_pos k1, if_neg (by omega), p1 (.inl k1), getI_set_eq hlt, pow_bit _ (hto (.inl k1)), List.nil_append, List.mem_singleton]
      · rw [if_neg k1]
        by_cases k2 : (l[k]).kind = 2
        · have ih := since_set h hn k (by omega) (p4 k1) r
          rw [if_pos k2, if_pos k2, p1 (.inr k2), getI_set_eq hlt, Int.toNat_natCast, Nat.testBit_or, Bool.or_eq_true, List.mem_append, List.mem_singleton, ih, Nat.testBit_two_pow, decide_eq_true_iff]
          have := hto (.inr k2)
          exact ⟨fun hh => hh.imp id (fun h9 => by omega), fun hh => hh.imp id (fun h9 => by omega)⟩
        · rw [if_neg k2, if_neg k2]
          have k5 : (l[k]).kind ≠ 5 := fun k5 => hr (p3 k5)
          have hrb := room_bd (s := s) (l := l) (k := k) n hn
          rw [if_pos (by omega), getI_set_eq hlt, hrun_room h (by omega) n, pow_bit _ hrb.1, List.nil_append, List.mem_singleton, p2 (by omega)]
    · rw [roomK_no h hn.1 hc e] at hr
      rw [since_no hc e, ← since_set h hn k (by omega) hr r]
      have hne : (l[k]).bag.toNat ≠ n.toNat := by omega
      unfold sinN
      split
      · rw [getI_set_ne hne]
      · split
        · rw [getI_set_ne hne]
        · split
          · rw [getI_set_ne hne]
          · rfl
def allRooms (s : Str) (set : Nat) (m : Nat) : List Nat := ((List.range m).filter fun r => set.testBit r).flatMap fun r => reachL s r
theorem susp_set {s : Str} {l : List CarryV} {bag : Int} (h : suspE s l bag = 0) : minL (allRooms s ((hrun l l.length).since.getD bag.toNat 0).toNat s.rooms.length) = suspV s l bag := by
  obtain ⟨h1, h2, h3⟩ := susp_0 h
  obtain ⟨hs, _, _⟩ := play_0 h1
  have hset := since_set h1 h2 l.length (Nat.le_refl _) h3
  have hbd := (since_bd (s := s) (l := l) h2 l.length).1
  rw [suspV, if_pos h]
  have e : ((sinceL s l bag l.length).flatMap fun r => groupsV s r.toNat) = ((sinceL s l bag l.length).map fun r => reachL s r.toNat).flatMap minL := by
    rw [List.flatMap_map]; rfl
  rw [e, minL_min (fun x hx y hy => by
    obtain ⟨r, _, rfl⟩ := List.mem_map.1 hx
    exact sets_lt hs y hy)]
  refine minL_ext fun x => ?_
  unfold allRooms
  rw [List.mem_flatMap, List.mem_flatten]
  constructor
  · rintro ⟨r, hr, hx⟩
    rw [List.mem_filter, List.mem_range] at hr
    refine ⟨reachL s r, List.mem_map.2 ⟨(r : Int), (hset r).1 hr.2, by rw [Int.toNat_natCast]⟩, hx⟩
  · rintro ⟨L, hL, hx⟩
    obtain ⟨r, hr, rfl⟩ := List.mem_map.1 hL
    have hb := hbd r hr
    refine ⟨r.toNat, ?_, hx⟩
    rw [List.mem_filter, List.mem_range]
    refine ⟨?_, (hset r.toNat).2 (by rw [Int.toNat_of_nonneg hb.1]; exact hr)⟩
    refine Nat.lt_of_not_le fun hle => ?_
    have h9 : (reachV s x).testBit r.toNat = true := (mem_sets.1 hx).2
    rw [Nat.testBit_lt_two_pow (Nat.lt_of_lt_of_le (reachV_lt hs x) (Nat.pow_le_pow_right (by decide) hle))] at h9
    cases h9
/-! up to a day -/
theorem fidx_first {α : Type} (q : α → Bool) : ∀ (l : List α) (i : Int) (j : Nat) (y : α), l[j]? = some y → q y = true → i ≤ fidx q l i ∧ fidx q l i ≤ i + j
  | [], _, _, _, h, _ => by cases h
  | x :: l, i, 0, y, h, hy => by
    have e : x = y := by simpa using h
    subst e
    rw [fidx, if_pos hy]; omega
  | x :: l, i, j + 1, y, h, hy => by
    rw [fidx]
    by_cases hx : q x = true
    · rw [if_pos hx]; omega
    · rw [if_neg hx]
      have := fidx_first q l (i + 1) j y (by simpa using h) hy
      omega
theorem fidx_sat {α : Type} (q : α → Bool) : ∀ (l : List α) (i : Int), fidx q l i ≠ -1 → ∃ y, l[(fidx q l i - i).toNat]? = some y ∧ q y = true
  | [], _, h => absurd rfl h
  | x :: l, i, h => by
    rw [fidx] at h ⊢
    by_cases hx : q x = true
    · rw [if_pos hx]
      exact ⟨x, by rw [Int.sub_self]; rfl, hx⟩
    · rw [if_neg hx] at h ⊢
      obtain ⟨y, hy, hq⟩ := fidx_sat q l (i + 1) h
      have h1 := fidx_lt q l (i + 1)
      refine ⟨y, ?_, hq⟩
      have e : (fidx q l (i + 1) - i).toNat = (fidx q l (i + 1) - (i + 1)).toNat + 1 := by omega
      rw [e, List.getElem?_cons_succ]; exact hy
theorem upto_end {l : List CarryV} {day : Int} {k : Nat} (hk : k ≤ uptoN l day) (h : l.length ≤ k ∨ ∃ c, l[k]? = some c ∧ day < c.day) : uptoN l day = k := by
  have hle := upto_le l day
  rcases h with h | ⟨c, hc, hd⟩
  · omega
  · refine Nat.le_antisymm (Nat.le_of_not_lt fun hlt => ?_) hk
    have hkl := (List.getElem?_eq_some_iff.1 hc).1
    unfold uptoN afterI at hlt
    by_cases hex : ∃ j, j < k ∧ ∃ y, l[j]? = some y ∧ day < y.day
    · obtain ⟨j, hj, y, hy, hyd⟩ := hex
      have := fidx_first (fun c : CarryV => decide (day < c.day)) l 0 j y hy (decide_eq_true hyd)
      split at hlt <;> omega
    · have := fidx_first (fun c : CarryV => decide (day < c.day)) l 0 k c hc (decide_eq_true hd)
      split at hlt <;> omega
theorem upto_next {l : List CarryV} {day : Int} {k : Nat} {c : CarryV} (hk : k ≤ uptoN l day) (hc : l[k]? = some c) (hd : c.day ≤ day) : k + 1 ≤ uptoN l day := by
  refine Nat.lt_of_le_of_ne hk fun e => ?_
  have hkl := (List.getElem?_eq_some_iff.1 hc).1
  unfold uptoN afterI at e
  split at e
  · omega
  · rename_i h9
    have h8 := fidx_sat (fun c : CarryV => decide (day < c.day)) l 0 (by omega)
    obtain ⟨y, hy, hyd⟩ := h8
    have : y = c := by
      have e2 : (fidx (fun c : CarryV => decide (day < c.day)) l 0 - 0).toNat = k := by omega
      rw [e2, hc] at hy
      exact (Option.some.inj hy).symm
    subst this
    have := of_decide_eq_true hyd
    omega
theorem upto_all {s : Str} {l : List CarryV} (h : logB s l = true) : uptoN l 36500 = l.length := by
  unfold uptoN afterI
  rw [fidx_none _ _ _ (fun c hc => by rw [decide_eq_false_iff_not]; have := (log_ok h c hc).day; omega), if_pos (by decide)]
end Vm
namespace Go.Proofs.YtomidcehahdmbaaGreat
open Go Go.Sx Go.RowKit Vm
/-- Where a hall lies. -/
structure HA where
  b : Nat
  Ab : Option Addr
  cb : Nat
  Ae : Option Addr
  ce : Nat
  As : Option Addr
  cs : Nat
  An : Option Addr
  cn : Nat
def dayE (s : Str) (l : List CarryV) (day : Int) : Int := if strB s = true then (if logB s l = true then (run s log0 (l.take (uptoN l day))).2.2 else 43) else 40
def dayAt (s : Str) (l : List CarryV) (day : Int) : Nat := if dayE s l day = 0 then l.length else if strB s = true then (if logB s l = true then (run s log0 (l.take (uptoN l day))).2.1 else 0) else 0
theorem day_all (s : Str) (l : List CarryV) : dayE s l 36500 = playE s l ∧ dayAt s l 36500 = playAt s l := by
  have h1 : dayE s l 36500 = playE s l := by
    unfold dayE playE
    by_cases hl : logB s l = true
    · rw [upto_all hl, List.take_length]
    · rw [if_neg hl, if_neg hl]
  refine ⟨h1, ?_⟩
  unfold dayAt
  rw [h1]
  by_cases h : playE s l = 0
  · rw [if_pos h, (play_run h).2.2]
  · rw [if_neg h]
    unfold playAt
    by_cases hl : logB s l = true
    · rw [upto_all hl, List.take_length]
    · rw [if_neg hl, if_neg hl]
theorem day_part {s : Str} {l : List CarryV} (h : playE s l = 0) (day : Int) : dayE s l day = 0 := by
  obtain ⟨hs, hl, _⟩ := play_0 h
  unfold dayE
  rw [if_pos hs, if_pos hl]
  exact run_take s l log0 _ (play_run h).1
end Go.Proofs.YtomidcehahdmbaaGreat
namespace Go.Proofs.YtomidcehahdmbaaGreat
open Go Go.Sx Go.RowKit Vm
/-- The first bags of one list, then of another one. -/
abbrev mixB (l m : List BagV) (i : Nat) : List BagV := l.take i ++ m.drop i
theorem mix_len {l m : List BagV} (hl : l.length = 32) (hm : m.length = 32) {i : Nat} (hi : i ≤ 32) : (mixB l m i).length = 32 := by
  rw [List.length_append, List.length_take, List.length_drop]; omega
theorem mix_set {l m : List BagV} (hl : l.length = 32) (hm : m.length = 32) {i : Nat} {x : BagV} (h : l[i]? = some x) : (mixB l m i).set i x = mixB l m (i + 1) := by
  have hi := (List.getElem?_eq_some_iff.1 h).1
  rw [mixB, mixB, List.set_append, if_neg (by rw [List.length_take]; omega), List.length_take, Nat.min_eq_left (by omega), Nat.sub_self, List.take_add_one, h, Option.toList_some, List.append_assoc]
  have hd : m.drop i = m[i]'(by omega) :: m.drop (i + 1) := List.drop_eq_getElem_cons (by omega)
  rw [hd]; rfl
theorem mix_end {l m : List BagV} (hl : l.length = 32) (hm : m.length = 32) : mixB l m 32 = l := by
  rw [mixB, List.take_of_length_le (by omega), List.drop_of_length_le (by omega), List.append_nil]
theorem hrun_play {s : Str} {l : List CarryV} (h : playE s l = 0) : (hrun l l.length).st.bags = playB s l := by
  rw [hrun_st h l.length (Nat.le_refl _), List.take_length, (play_run h).2.1]
theorem play_err {s : Str} {l : List CarryV} (h : playE s l ≠ 0) : playB s l = bags0 := by
  unfold playB; rw [if_neg h]
theorem all_rooms_s {s : Str} {set m : Nat} : allRooms s set (m + 1) = allRooms s set m ++ if set.testBit m = true then reachL s m else [] := by
  unfold allRooms
  rw [List.range_succ, List.filter_append, List.flatMap_append]
  by_cases h : set.testBit m = true
  · rw [if_pos h]; simp [h]
  · rw [if_neg h]; simp [h]
theorem all_rooms_lt {s : Str} (hs : strB s = true) (set m : Nat) : ∀ x ∈ allRooms s set m, x < 64 := fun x hx => by
  unfold allRooms at hx
  obtain ⟨r, _, hr⟩ := List.mem_flatMap.1 hx
  exact sets_lt hs x hr
theorem all_rooms_len {s : Str} (hs : strB s = true) (set : Nat) : ∀ m, (allRooms s set m).length ≤ 64 * m
  | 0 => Nat.le_refl _
  | m + 1 => by
    rw [all_rooms_s, List.length_append]
    have ih := all_rooms_len hs set m
    have h64 := staff_le hs
    have hr : (reachL s m).length ≤ 2 ^ s.staff.length := by
      unfold reachL setsN
      exact Nat.le_trans (List.length_filter_le _ _) (by rw [List.length_range]; exact Nat.le_refl _)
    split
    · omega
    · simp only [List.length_nil]; omega
end Go.Proofs.YtomidcehahdmbaaGreat
namespace Go.Sx
open Go.RowKit
section
variable {C : Cx} {L : Regs} {O S : List Fact} {ty : TypeId} {pos : String} {aft : Array Edge} {dst : Option Tmp} {gu : Option (Nat × Bool)} {t t' : TypeId} {x y : Operand}
def orZ (a b : Int) : Int := IntKind.i64.wrap ((BitVec.ofInt 64 a ||| BitVec.ofInt 64 b).toNat : Int)
def andZ (a : Int) (c : Nat) : Nat := (BitVec.ofInt 64 a &&& BitVec.ofInt 64 (c : Int)).toNat
theorem bv_wrap (z : Int) : BitVec.ofInt 64 (IntKind.i64.wrap z) = BitVec.ofInt 64 z := by
  rw [IntKind.wrap_i64]
  apply BitVec.eq_of_toNat_eq
  rw [BitVec.toNat_ofInt, BitVec.toNat_ofInt]
  omega
theorem bv_nat (m : Nat) : BitVec.ofInt 64 (m : Int) = BitVec.ofNat 64 m := BitVec.ofInt_natCast ..
theorem and_bit {a : Int} {c i : Nat} (hc : c < 2 ^ 62) : (andZ a c).testBit i = ((BitVec.ofInt 64 a).getLsbD i && c.testBit i) := by
  unfold andZ
  rw [BitVec.testBit_toNat, BitVec.getLsbD_and]
  congr 1
  rw [← BitVec.testBit_toNat, nat_bv c (by omega)]
theorem and_le {a : Int} {c : Nat} (hc : c < 2 ^ 62) : andZ a c ≤ c := by
  have e : andZ a c &&& c = andZ a c := Nat.eq_of_testBit_eq fun i => by
    rw [Nat.testBit_and, and_bit hc]
    cases (BitVec.ofInt 64 a).getLsbD i <;> cases c.testBit i <;> rfl
  rw [← e]; exact Nat.and_le_right
theorem and_or {p c i : Nat} {n : Int} (hp : p < 2 ^ 62) (hc : c < 2 ^ 62) (h : p.testBit i = true) (h2 : c.testBit i = true) : (andZ (orZ p n) c).testBit i = true := by
  rw [and_bit hc, h2, Bool.and_true, orZ, bv_wrap, bv_nat, BitVec.ofNat_toNat, BitVec.setWidth_eq, BitVec.getLsbD_or, ← BitVec.testBit_toNat, nat_bv p (by omega), h, Bool.true_or]
theorem y_orZ {m n : Int} (hx : val L x = some (.int .i64 m)) (hy : val L y = some (.int .i64 n)) : Yi C ⟨dst, .binOp .or t x y t', ty, pos, aft, gu⟩ L O S (.int .i64 (orZ m n)) :=
  yi_val (by intro c h; cases h) fun a w hr _ => by
    have e : binOp .or t (.int .i64 m) (.int .i64 n) = pure (.int .i64 (orZ m n)) := by
      unfold binOp
      simp only [ne_eq, not_true_eq_false, if_false]
      rfl
    simp [execOp, hr.val hx, hr.val hy, eqGuard, e]
theorem y_andZ {m : Int} {c : Nat} (hx : val L x = some (.int .i64 m)) (hy : val L y = some (.int .i64 (c : Nat))) (hc : c < 2 ^ 62) : Yi C ⟨dst, .binOp .and t x y t', ty, pos, aft, gu⟩ L O S (.int .i64 ((andZ m c : Nat) : Int)) :=
  yi_val (by intro c h; cases h) fun a w hr _ => by
    have h1 : IntKind.i64.wrap ((andZ m c : Nat) : Int) = ((andZ m c : Nat) : Int) := IntWalk.i64_in _ (by have := and_le (a := m) hc; omega)
    have e : binOp .and t (.int .i64 m) (.int .i64 (c : Int)) = pure (.int .i64 ((andZ m c : Nat) : Int)) := by
      unfold binOp
      simp only [ne_eq, not_true_eq_false, if_false]
      exact congrArg (fun z => (pure (Value.int .i64 z) : Sem Value)) h1
    simp [execOp, hr.val hx, hr.val hy, eqGuard, e]
/-- An element of a slice whose length is known in other words. -/
theorem y_ixRm {α : Type} {m s e n c sz : Nat} {A : Option Addr} {i : Int} {k : IntKind} {enc : α → List Value} {xs : List α} (hm : m = xs.length) (hr0 : Reads C O S sz enc A xs) (hu : C.P.underlying s = some (.slice e)) (hs : ∀ w, (sizeOf e).run C.P w = .ok n w) (hx : val L x = some (.slice A m c)) (hy : val L y = some (.int k i)) (hi : 0 ≤ i ∧ i < m) :
    Yi C ⟨dst, .indexAddr s x y, ty, pos, aft, gu⟩ L O S (.pointer (some (at_ A (i.toNat * n)))) := by
  subst hm
  exact y_ixR hr0 hu hs hx hy hi
end
end Go.Sx
namespace Go.Proofs.YtomidcehahdmbaaGreat
open Go.Sx Go.RowKit
set_option maxRecDepth 20000
theorem fa56_0 : FieldIs Tryz.prog 56 0 0 3 true := ⟨⟨_, _, Tryz.underlying56, rfl, rfl, Tryz.sizeOf26, Tryz.isAgg26, by decide⟩⟩
theorem fa56_1 : FieldIs Tryz.prog 56 1 3 1 false := ⟨⟨_, _, Tryz.underlying56, rfl, rfl, Tryz.sizeOf54, Tryz.isAgg54, by decide⟩⟩
theorem fa56_2 : FieldIs Tryz.prog 56 2 4 1 false := ⟨⟨_, _, Tryz.underlying56, rfl, rfl, Tryz.sizeOf24, Tryz.isAgg24, by decide⟩⟩
theorem fa56_3 : FieldIs Tryz.prog 56 3 5 1 false := ⟨⟨_, _, Tryz.underlying56, rfl, rfl, Tryz.sizeOf24, Tryz.isAgg24, by decide⟩⟩
theorem st56 : StructIs Tryz.prog 56 [(0, 3), (3, 1), (4, 1), (5, 1), (6, 1)] [.slice none 0 0, .slice none 0 0, .slice none 0 0, .slice none 0 0, .slice none 0 0, .slice none 0 0, .slice none 0 0] := ⟨⟨_, Tryz.underlying56, fun w => by simp [Tryz.sizeOf24, Tryz.sizeOf26, Tryz.sizeOf54], Tryz.zeroValue56⟩⟩
end Go.Proofs.YtomidcehahdmbaaGreat
namespace Go.Proofs.YtomidcehahdmbaaGreat
open Go.Sx Go.RowKit Vm
set_option maxRecDepth 20000
theorem k_BitZ (a r : Int) (w : World) (ha : 0 ≤ a) (h0 : 0 ≤ r) (h1 : r ≤ 64) : Calls Tryz.prog 30 #[.int .i64 a, .int .i64 r] w (fun e w' => e = .returned (.bool (a.toNat.testBit r.toNat)) ∧ Grow w w') := by
  obtain ⟨m, rfl⟩ : ∃ m : Nat, a = m := ⟨a.toNat, by omega⟩
  exact k_BitI m r w ⟨h0, h1⟩
theorem k_withI (a b : Int) (w : World) (ha : 0 ≤ a ∧ a < 256) (hb : 0 ≤ b ∧ b < 256) : Calls Tryz.prog 71 #[.int .i64 a, .int .i64 b] w (fun e w' => e = .returned (.int .i64 ((a.toNat ||| b.toNat : Nat) : Int)) ∧ Grow w w') := by
  obtain ⟨m, rfl⟩ : ∃ m : Nat, a = m := ⟨a.toNat, by omega⟩
  obtain ⟨n, rfl⟩ : ∃ n : Nat, b = n := ⟨b.toNat, by omega⟩
  exact k_with m n w (by omega) (by omega)

theorem k_hall (s : StrV) (w : World)  : Calls Tryz.prog 43 #[.agg #[.slice s.Ar s.rooms.length s.cr, .slice s.Ag s.gates.length s.cg, .slice s.As s.staff.length s.cs]] w (fun e w' => ∃ z : Nat × Nat × Nat, e = .returned (.pointer (some ⟨z.1, 0, none⟩)) ∧ Giv [] w w' [ownB z.1 (cellsB 56 [.slice s.Ar s.rooms.length s.cr, .slice s.Ag s.gates.length s.cg, .slice s.As s.staff.length s.cs, .slice (some ⟨z.2.1, 0, none⟩) 32 32, .slice none hs0.ever.length 0, .slice none hs0.st.seals.length 0, .slice (some ⟨z.2.2, 0, none⟩) 32 32]), ow 30 5 encBa (some ⟨z.2.1, 0, none⟩) 32 hs0.st.bags, ow 3 1 enInt none 0 hs0.ever, ow 3 1 enInt none 0 hs0.st.seals, ow 3 1 enInt (some ⟨z.2.2, 0, none⟩) 32 hs0.since]) := by
  refine enterO (args := [.agg #[.slice s.Ar s.rooms.length s.cr, .slice s.Ag s.gates.length s.cg, .slice s.As s.staff.length s.cs]]) [] [] Tryz.func43 rfl (by rw [Tryz.ntmps43]; simp) (fun g hg => by cases hg) (.nil) (fun g hg => by cases hg) ?_
  refine cj_seq (cj_region ?_)
  refine oj_box rfl rfl rfl (fun b1 => ?_)
  refine oj_step (y_assign rfl) rfl rfl rfl ?_
  refine oj_nil ?_
  refine ej_th (cj_seq ?_)
  refine cj_ownNil 3 1 enInt ?_
  refine cj_ownNil 3 1 enInt ?_
  refine cj_plan 6 (by kernel_rfl) (by kernel_rfl) ?_
  refine pl_y 0 rfl (y_loadN Tryz.isAgg26 Tryz.sizeOf26 rfl) rfl rfl rfl rfl (by kernel_rfl) ?_
  refine pl_w2 1 2 (by kernel_rfl) rfl rfl (pl_fire rfl rfl rfl (by kernel_rfl) ?_) (pl_fire rfl rfl rfl (by kernel_rfl) ?_)
  · refine oj_makeSliceC (n := 32) (z := .agg (encBa bag0).toArray) (bags0.flatMap encBa) Tryz.underlying54 Tryz.type30 (by kernel_rfl) (by kernel_rfl) rfl rfl (by decide) (by decide) (by kernel_rfl) rfl (fun b4 => ?_)
    refine oj_litOw (b := b4) (e := 30) (c := 32) (sz := 5) (enc := encBa) bags0 rfl rfl rfl (by unfold maxLen; decide) ?_
    refine oj_nil ?_
    refine ej_pl (lt_y (y_loadN Tryz.isAgg26 Tryz.sizeOf26 rfl) rfl (lt_nil)) ?_
    refine pl_w1 2 (by kernel_rfl) rfl rfl (pl_fire rfl rfl rfl (by kernel_rfl) ?_)
    refine oj_makeSlice1 (n := 32) Tryz.underlying24 Tryz.type3 rfl rfl rfl rfl rfl (by decide) (by decide) rfl (fun b5 => ?_)
    refine oj_litOw (b := b5) (e := 3) (c := 32) (sz := 1) (enc := enInt) (List.replicate 32 (0 : Int)) rfl rfl rfl (by unfold maxLen; decide) ?_
    refine oj_nil ?_
    refine ej_pl (lt_y (y_loadN Tryz.isAgg26 Tryz.sizeOf26 rfl) rfl (lt_nil)) ?_
    refine pl_y 3 rfl (y_build (cs := [.slice s.Ar s.rooms.length s.cr, .slice s.Ag s.gates.length s.cg, .slice s.As s.staff.length s.cs, .slice (some ⟨b4, 0, none⟩) 32 32, .slice none 0 0, .slice none 0 0, .slice (some ⟨b5, 0, none⟩) 32 32]) st56 rfl (by kernel_rfl)) rfl rfl rfl rfl (by kernel_rfl) ?_
    refine pl_w1 4 (by kernel_rfl) rfl rfl (pl_fire rfl rfl rfl (by kernel_rfl) ?_)
    refine oj_box rfl rfl rfl (fun b7 => ?_)
    refine oj_nil ?_
    refine ej_pl (lt_w (by kernel_rfl) (lt_y (y_loadN Tryz.isAgg26 Tryz.sizeOf26 rfl) rfl (lt_nil))) ?_
    refine pl_y 5 rfl (y_assign rfl) rfl rfl rfl rfl (by kernel_rfl) ?_
    refine pl_end (by kernel_rfl) ?_
    refine ej_th (cj_ret ?_)
    refine ej_takes [ownB b7 (cellsB 56 [.slice s.Ar s.rooms.length s.cr, .slice s.Ag s.gates.length s.cg, .slice s.As s.staff.length s.cs, .slice (some ⟨b4, 0, none⟩) 32 32, .slice none 0 0, .slice none 0 0, .slice (some ⟨b5, 0, none⟩) 32 32]), ow 30 5 encBa (some ⟨b4, 0, none⟩) 32 bags0, ow 3 1 enInt none 0 ([] : List Int), ow 3 1 enInt none 0 ([] : List Int), ow 3 1 enInt (some ⟨b5, 0, none⟩) 32 (List.replicate 32 (0 : Int))] ?_
    refine ej_eqO [ownB b7 (cellsB 56 [.slice s.Ar s.rooms.length s.cr, .slice s.Ag s.gates.length s.cg, .slice s.As s.staff.length s.cs, .slice (some ⟨b4, 0, none⟩) 32 32, .slice none hs0.ever.length 0, .slice none hs0.st.seals.length 0, .slice (some ⟨b5, 0, none⟩) 32 32]), ow 30 5 encBa (some ⟨b4, 0, none⟩) 32 hs0.st.bags, ow 3 1 enInt none 0 hs0.ever, ow 3 1 enInt none 0 hs0.st.seals, ow 3 1 enInt (some ⟨b5, 0, none⟩) 32 hs0.since] rfl ?_
    exact ej_ret1 rfl Tryz.results43 rfl (fun w' hp => ⟨(b7, b4, b5), rfl, hp.givT _⟩)
  · refine oj_makeSlice1 (n := 32) Tryz.underlying24 Tryz.type3 rfl rfl rfl rfl rfl (by decide) (by decide) rfl (fun b5 => ?_)
    refine oj_litOw (b := b5) (e := 3) (c := 32) (sz := 1) (enc := enInt) (List.replicate 32 (0 : Int)) rfl rfl rfl (by unfold maxLen; decide) ?_
    refine oj_nil ?_
    refine ej_pl (lt_y (y_loadN Tryz.isAgg26 Tryz.sizeOf26 rfl) rfl (lt_nil)) ?_
    refine pl_w1 1 (by kernel_rfl) rfl rfl (pl_fire rfl rfl rfl (by kernel_rfl) ?_)
    refine oj_makeSliceC (n := 32) (z := .agg (encBa bag0).toArray) (bags0.flatMap encBa) Tryz.underlying54 Tryz.type30 (by kernel_rfl) (by kernel_rfl) rfl rfl (by decide) (by decide) (by kernel_rfl) rfl (fun b4 => ?_)
    refine oj_litOw (b := b4) (e := 30) (c := 32) (sz := 5) (enc := encBa) bags0 rfl rfl rfl (by unfold maxLen; decide) ?_
    refine oj_nil ?_
    refine ej_pl (lt_y (y_loadN Tryz.isAgg26 Tryz.sizeOf26 rfl) rfl (lt_nil)) ?_
    refine pl_y 3 rfl (y_build (cs := [.slice s.Ar s.rooms.length s.cr, .slice s.Ag s.gates.length s.cg, .slice s.As s.staff.length s.cs, .slice (some ⟨b4, 0, none⟩) 32 32, .slice none 0 0, .slice none 0 0, .slice (some ⟨b5, 0, none⟩) 32 32]) st56 rfl (by kernel_rfl)) rfl rfl rfl rfl (by kernel_rfl) ?_
    refine pl_w1 4 (by kernel_rfl) rfl rfl (pl_fire rfl rfl rfl (by kernel_rfl) ?_)
    refine oj_box rfl rfl rfl (fun b7 => ?_)
    refine oj_nil ?_
    refine ej_pl (lt_w (by kernel_rfl) (lt_y (y_loadN Tryz.isAgg26 Tryz.sizeOf26 rfl) rfl (lt_nil))) ?_
    refine pl_y 5 rfl (y_assign rfl) rfl rfl rfl rfl (by kernel_rfl) ?_
    refine pl_end (by kernel_rfl) ?_
    refine ej_th (cj_ret ?_)
    refine ej_takes [ownB b7 (cellsB 56 [.slice s.Ar s.rooms.length s.cr, .slice s.Ag s.gates.length s.cg, .slice s.As s.staff.length s.cs, .slice (some ⟨b4, 0, none⟩) 32 32, .slice none 0 0, .slice none 0 0, .slice (some ⟨b5, 0, none⟩) 32 32]), ow 30 5 encBa (some ⟨b4, 0, none⟩) 32 bags0, ow 3 1 enInt none 0 ([] : List Int), ow 3 1 enInt none 0 ([] : List Int), ow 3 1 enInt (some ⟨b5, 0, none⟩) 32 (List.replicate 32 (0 : Int))] ?_
    refine ej_eqO [ownB b7 (cellsB 56 [.slice s.Ar s.rooms.length s.cr, .slice s.Ag s.gates.length s.cg, .slice s.As s.staff.length s.cs, .slice (some ⟨b4, 0, none⟩) 32 32, .slice none hs0.ever.length 0, .slice none hs0.st.seals.length 0, .slice (some ⟨b5, 0, none⟩) 32 32]), ow 30 5 encBa (some ⟨b4, 0, none⟩) 32 hs0.st.bags, ow 3 1 enInt none 0 hs0.ever, ow 3 1 enInt none 0 hs0.st.seals, ow 3 1 enInt (some ⟨b5, 0, none⟩) 32 hs0.since] rfl ?_
    exact ej_ret1 rfl Tryz.results43 rfl (fun w' hp => ⟨(b7, b4, b5), rfl, hp.givT _⟩)

theorem k_many (s : StrV) (h : HS) (b : Nat) (Ab : Option Addr) (cb : Nat) (Ae : Option Addr) (ce : Nat) (As : Option Addr) (cs : Nat) (An : Option Addr) (cn : Nat) (room : Int) (w : World) (hcell : (ownB b (cellsB 56 [.slice s.Ar s.rooms.length s.cr, .slice s.Ag s.gates.length s.cg, .slice s.As s.staff.length s.cs, .slice Ab 32 cb, .slice Ae h.ever.length ce, .slice As h.st.seals.length cs, .slice An 32 cn])).P w) (hbags : Rd w 5 encBa Ab h.st.bags) (hever : Rd w 1 enInt Ae h.ever) (hseal : Rd w 1 enInt As h.st.seals) (hl32 : h.st.bags.length = 32) : Calls Tryz.prog 72 #[.pointer (some ⟨b, 0, none⟩), .int .i64 room] w (fun e w' => e = .returned (.int .i64 (manyN h.st.bags room : Nat)) ∧ Grow w w') := by
  refine enter_pure (args := [.pointer (some ⟨b, 0, none⟩), .int .i64 room]) [ownB b (cellsB 56 [.slice s.Ar s.rooms.length s.cr, .slice s.Ag s.gates.length s.cg, .slice s.As s.staff.length s.cs, .slice Ab 32 cb, .slice Ae h.ever.length ce, .slice As h.st.seals.length cs, .slice An 32 cn]), sl (fun b => b < w.heap.size) 5 encBa Ab h.st.bags, sl (fun b => b < w.heap.size) 1 enInt Ae h.ever, sl (fun b => b < w.heap.size) 1 enInt As h.st.seals] Tryz.func72 rfl (by rw [Tryz.ntmps72]; simp) (fun g hg => by
    simp only [List.mem_cons, List.mem_nil_iff, or_false] at hg
    rcases hg with rfl | rfl | rfl | rfl
    · exact ⟨hcell, fun i hi => by have : i = b := hi; subst this; exact (Array.getElem?_eq_some_iff.1 hcell).1⟩
    · exact ⟨hbags, fun _ h => h⟩
    · exact ⟨hever, fun _ h => h⟩
    · exact ⟨hseal, fun _ h => h⟩) ?_
  refine cj_seq ?_
  refine cj_regionG (gj_step (y_assign rfl) rfl rfl rfl (gj_nil ?_))
  refine ej_th (cj_seq ?_)
  refine cj_regionG (gj_step (y_assign rfl) rfl rfl rfl (gj_nil ?_))
  refine ej_th (cj_seq (cj_seq ?_))
  refine cj_regionG (gj_step (y_assign rfl) rfl rfl rfl (gj_nil ?_))
  refine ej_th (cj_block ?_)
  refine cj_lpic (X := Nat) [(0, _), (1, _), (4, _)] (fun k => k ≤ 32) (fun k => [(5, .int .i64 (manyN (h.st.bags.take k) room : Nat)), (6, .int .i64 (k : Nat))]) (fun k => 32 - k) 0 (by omega) ⟨rfl, rfl, rfl, rfl, rfl, trivial⟩ ?_
  rintro k hk
  dsimp only [List.cons_append, List.nil_append]
  refine cj_seq (cj_seq ?_)
  refine cj_regionG (gj_step (y_move rfl) rfl rfl rfl (gj_step (y_move rfl) rfl rfl rfl (gj_step (y_nil rfl) rfl rfl rfl (gj_step (y_fa fa56_1 rfl) rfl rfl rfl (gj_step (y_loadS1 Tryz.isAgg54 rfl rfl) rfl rfl rfl (gj_step (y_lenA Tryz.underlying54 rfl) rfl rfl rfl (gj_step (y_lss rfl rfl) rfl rfl rfl (gj_nil ?_))))))))
  refine ej_th ?_
  refine cj_cond rfl (fun h13 => ?_) (fun h13 => ?_)
  · have h13b := h13
    try simp only [sxb] at h13
    obtain ⟨x, hx⟩ : ∃ x, h.st.bags[k]? = some x := ⟨_, List.getElem?_eq_getElem (by omega)⟩
    have hms := many_step room hx
    have hmb : manyN (h.st.bags.take k) room ≤ 32 := by unfold manyN; exact Nat.le_trans List.countP_le_length (by rw [List.length_take]; omega)
    refine cj_skip (ej_th (cj_seq (cj_block (cj_seq ?_))))
    refine cj_regionG (gj_step (y_move rfl) rfl rfl rfl (gj_step (y_nil rfl) rfl rfl rfl (gj_step (y_fa fa56_1 rfl) rfl rfl rfl (gj_step (y_loadS1 Tryz.isAgg54 rfl rfl) rfl rfl rfl (gj_step (y_move rfl) rfl rfl rfl (gj_step (y_ixRm (m := 32) (xs := h.st.bags) hl32.symm (reads_sl) Tryz.underlying54 Tryz.sizeOf30 rfl rfl ⟨by omega, by omega⟩) rfl rfl rfl (gj_step (y_faE fa30_0 rfl) rfl rfl rfl (gj_step (y_ld1 (reads_sl) Tryz.isAgg3 rfl (hx) rfl) rfl rfl rfl (gj_step (y_move rfl) rfl rfl rfl (gj_step (y_eql rfl rfl) rfl rfl rfl (gj_nil ?_)))))))))))
    refine ej_th ?_
    refine cj_cond rfl (fun h25 => ?_) (fun h25 => ?_)
    · have h25b := h25
      try simp only [sxb] at h25
      rw [if_pos (by simpa using h25)] at hms
      refine cj_regionG (gj_step (y_move rfl) rfl rfl rfl (gj_step (y_add rfl rfl (by omega)) rfl rfl rfl (gj_step (y_assign rfl) rfl rfl rfl (gj_nil ?_))))
      refine ej_blk (ej_th ?_)
      refine cj_regionG (gj_step (y_move rfl) rfl rfl rfl (gj_step (y_add rfl rfl (by omega)) rfl rfl rfl (gj_step (y_assign rfl) rfl rfl rfl (gj_nil ?_))))
      rw [show ((manyN (h.st.bags.take k) room : Nat) : Int) + 1 = (manyN (h.st.bags.take (k + 1)) room : Nat) by omega]
      exact ej_nx (k + 1) (by omega) (by omega) ⟨rfl, rfl, rfl, rfl, rfl, trivial⟩
    · have h25b := h25
      try simp only [sxb] at h25
      rw [if_neg (by simpa using h25)] at hms
      refine cj_skip (ej_blk (ej_th ?_))
      refine cj_regionG (gj_step (y_move rfl) rfl rfl rfl (gj_step (y_add rfl rfl (by omega)) rfl rfl rfl (gj_step (y_assign rfl) rfl rfl rfl (gj_nil ?_))))
      rw [show ((manyN (h.st.bags.take k) room : Nat) : Int) = (manyN (h.st.bags.take (k + 1)) room : Nat) by omega]
      exact ej_nx (k + 1) (by omega) (by omega) ⟨rfl, rfl, rfl, rfl, rfl, trivial⟩
  · have h13b := h13
    try simp only [sxb] at h13
    refine cj_exit (ej_then_exit (ej_then_exit (ej_blk_hit (ej_th (cj_seq ?_)))))
    refine cj_regionG (gj_step (y_move rfl) rfl rfl rfl (gj_step (y_assign rfl) rfl rfl rfl (gj_nil ?_)))
    refine ej_th (cj_ret ?_)
    refine ej_ret1 rfl Tryz.results72 rfl (fun w' hp => ⟨?_, hp.below⟩)
    rw [List.take_of_length_le (by omega)]

set_option maxHeartbeats 3200000 in
theorem k_refused (s : StrV) (h : HS) (k : Nat) (c : CarryV) (b : Nat) (Ab : Option Addr) (cb : Nat) (Ae : Option Addr) (ce : Nat) (As : Option Addr) (cs : Nat) (An : Option Addr) (cn : Nat) (w : World) (hs : StrRd w s) (hok : Hok s.s k h) (hc : COk s.s c) (hb : strB s.s = true) (hcell : (ownB b (cellsB 56 [.slice s.Ar s.rooms.length s.cr, .slice s.Ag s.gates.length s.cg, .slice s.As s.staff.length s.cs, .slice Ab 32 cb, .slice Ae h.ever.length ce, .slice As h.st.seals.length cs, .slice An 32 cn])).P w) (hbags : Rd w 5 encBa Ab h.st.bags) (hever : Rd w 1 enInt Ae h.ever) (hseal : Rd w 1 enInt As h.st.seals) : Calls Tryz.prog 44 #[.pointer (some ⟨b, 0, none⟩), .agg #[.int .i64 c.day, .int .i64 c.kind, .int .i64 c.bag, .int .i64 c.to_, .int .i64 c.by_, .int .i64 c.with_, .int .i64 c.mark, .int .i64 c.suits]] w (fun e w' => e = .returned (.int .i64 (stepE s.s h.st c)) ∧ Grow w w') := by
  have hl32 := hok.inv.len
  have hcb := hc.bag
  have hbx := bagAt_get hok.inv hcb
  have hbn := hok.inv.nums _ _ hbx
  obtain ⟨hy1, hy2, hw1, hw2⟩ := bit_rng hc hb
  have hp1 := pow_64 hy2
  have hp2 := pow_64 hw2
  have hgo : (2 ^ c.by_.toNat ||| 2 ^ c.with_.toNat) < 64 := Nat.or_lt_two_pow (n := 6) hp1 hp2
  have hnr := (rooms_le hb).2.1
  have hnr' : s.rooms.length ≤ 6 := hnr
  have hto : ((c.kind == 1) || (c.kind == 2)) = true → 1 ≤ c.to_ ∧ c.to_ < s.rooms.length ∧ s.rooms[c.to_.toNat]? = some (roomAt s.s c.to_) ∧ 0 ≤ (roomAt s.s c.to_).climate ∧ (roomAt s.s c.to_).climate ≤ 3 := fun h9 => by
    have h8 := hc.to1 (by simpa using h9)
    have h7 := roomAt_ok hb (show 0 ≤ c.to_ by omega) h8.2
    exact ⟨h8.1, h8.2, h7.1, h7.2.2.2⟩
  have hlr := hs.rooms.len
  refine enter_pure (args := [.pointer (some ⟨b, 0, none⟩), .agg #[.int .i64 c.day, .int .i64 c.kind, .int .i64 c.bag, .int .i64 c.to_, .int .i64 c.by_, .int .i64 c.with_, .int .i64 c.mark, .int .i64 c.suits]]) [ownB b (cellsB 56 [.slice s.Ar s.rooms.length s.cr, .slice s.Ag s.gates.length s.cg, .slice s.As s.staff.length s.cs, .slice Ab 32 cb, .slice Ae h.ever.length ce, .slice As h.st.seals.length cs, .slice An 32 cn]), sl (fun b => b < w.heap.size) 5 encBa Ab h.st.bags, sl (fun b => b < w.heap.size) 1 enInt Ae h.ever, sl (fun b => b < w.heap.size) 1 enInt As h.st.seals, sl (fun b => b < w.heap.size) 3 encRo s.Ar s.rooms, sl (fun b => b < w.heap.size) 4 encGa s.Ag s.gates, sl (fun b => b < w.heap.size) 1 enInt s.As s.staff] Tryz.func44 rfl (by rw [Tryz.ntmps44]; simp) (fun g hg => by
    simp only [List.mem_cons, List.mem_nil_iff, or_false] at hg
    rcases hg with rfl | rfl | rfl | rfl | rfl | rfl | rfl
    · exact ⟨hcell, fun i hi => by have : i = b := hi; subst this; exact (Array.getElem?_eq_some_iff.1 hcell).1⟩
    · exact ⟨hbags, fun _ h => h⟩
    · exact ⟨hever, fun _ h => h⟩
    · exact ⟨hseal, fun _ h => h⟩
    · exact ⟨hs.rooms, fun _ h => h⟩
    · exact ⟨hs.gates, fun _ h => h⟩
    · exact ⟨hs.staff, fun _ h => h⟩) ?_
  refine cj_seq (cj_region ?_)
  refine oj_box rfl rfl rfl (fun b3 => ?_)
  refine oj_step (y_assign rfl) rfl rfl rfl ?_
  refine oj_nil ?_
  refine ej_th (cj_seq ?_)
  refine cj_plan 10 (by kernel_rfl) (by kernel_rfl) ?_
  refine pl_y 0 rfl (y_move rfl) rfl rfl rfl rfl (by kernel_rfl) ?_
  refine pl_y 1 rfl (y_nil rfl) rfl rfl rfl rfl (by kernel_rfl) ?_
  refine pl_y 2 rfl (y_fa fa56_1 rfl) rfl rfl rfl rfl (by kernel_rfl) ?_
  refine pl_y 3 rfl (y_loadS1 Tryz.isAgg54 rfl rfl) rfl rfl rfl rfl (by kernel_rfl) ?_
  refine pl_y 4 rfl (y_fa fa60_2 rfl) rfl rfl rfl rfl (by kernel_rfl) ?_
  refine pl_y 5 rfl (y_load1 Tryz.isAgg3 rfl rfl) rfl rfl rfl rfl (by kernel_rfl) ?_
  refine pl_y 6 rfl (y_ixRm (m := 32) (xs := h.st.bags) hl32.symm (reads_sl) Tryz.underlying54 Tryz.sizeOf30 rfl rfl ⟨by omega, by omega⟩) rfl rfl rfl rfl (by kernel_rfl) ?_
  refine pl_y 7 rfl (y_ldW (reads_sl) Tryz.isAgg30 Tryz.sizeOf30 rfl (hbx) (fun _ => rfl)) rfl rfl rfl rfl (by kernel_rfl) ?_
  refine pl_w1 8 (by kernel_rfl) rfl rfl (pl_fire rfl rfl rfl (by kernel_rfl) ?_)
  refine oj_alloc Tryz.zeroValue30 rfl rfl (fun b5 => ?_)
  refine oj_nil ?_
  refine ej_pl (lt_y (y_ldW (reads_sl) Tryz.isAgg30 Tryz.sizeOf30 rfl (hbx) (fun _ => rfl)) rfl (lt_y (y_ixRm (m := 32) (xs := h.st.bags) hl32.symm (reads_sl) Tryz.underlying54 Tryz.sizeOf30 rfl rfl ⟨by omega, by omega⟩) rfl (lt_y (y_load1 Tryz.isAgg3 rfl rfl) rfl (lt_y (y_fa fa60_2 rfl) rfl (lt_y (y_loadS1 Tryz.isAgg54 rfl rfl) rfl (lt_y (y_fa fa56_1 rfl) rfl (lt_y (y_nil rfl) rfl (lt_y (y_move rfl) rfl (lt_nil))))))))) ?_
  refine pl_w1 9 (by kernel_rfl) rfl rfl (pl_fire rfl rfl rfl (by kernel_rfl) ?_)
  refine oj_store rfl rfl rfl rfl Tryz.sizeOf30 rfl ?_
  refine oj_nil ?_
  refine ej_pl (lt_w (by kernel_rfl) (lt_w (by kernel_rfl) (lt_w (by kernel_rfl) (lt_w (by kernel_rfl) (lt_w (by kernel_rfl) (lt_w (by kernel_rfl) (lt_w (by kernel_rfl) (lt_w (by kernel_rfl) (lt_nil))))))))) ?_
  refine pl_end (by kernel_rfl) ?_
  refine ej_th (cj_seq ?_)
  refine cj_draw (by kernel_rfl) (by kernel_rfl) (gj_step (y_fa fa60_1 rfl) rfl rfl rfl (gj_step (y_load1 Tryz.isAgg3 rfl rfl) rfl rfl rfl (gj_step (y_eql rfl rfl) rfl rfl rfl (gj_step (y_fa fa60_1 rfl) rfl rfl rfl (gj_step (y_load1 Tryz.isAgg3 rfl rfl) rfl rfl rfl (gj_step (y_eql rfl rfl) rfl rfl rfl (gj_step (y_assign rfl) rfl rfl rfl (gj_step (y_assign rfl) rfl rfl rfl (gj_nil ?_)))))))))
  refine ej_th (cj_seq (cj_seq ?_))
  refine cj_draw (by kernel_rfl) (by kernel_rfl) ?_
  refine gj_step (y_move rfl) rfl rfl rfl (gj_step (y_move rfl) rfl rfl rfl (?_))
  refine gj_g 8 25 33 rfl rfl rfl rfl (fun hg25 => gj_yes rfl rfl rfl (y_move rfl) rfl rfl (gj_yes rfl rfl rfl (y_nil rfl) rfl rfl (gj_yes rfl rfl rfl (y_fa fa56_2 rfl) rfl rfl (gj_yes rfl rfl rfl (y_loadS1 Tryz.isAgg24 rfl rfl) rfl rfl (gj_yes rfl rfl rfl (y_fa fa60_2 rfl) rfl rfl (gj_yes rfl rfl rfl (y_load1 Tryz.isAgg3 rfl rfl) rfl rfl (gj_yes rfl rfl rfl (y_call Tryz.call61 rfl (fun w hp => k_Seek h.ever c.bag Ae ce w hp.rd)) rfl rfl (gj_yes rfl rfl rfl (y_geq rfl rfl) rfl rfl (gj_nil rfl))))))))) ?_
  refine gj_step (y_and rfl rfl rfl) rfl rfl rfl (gj_step (y_move rfl) rfl rfl rfl (?_))
  refine gj_g 7 35 42 rfl rfl rfl rfl (fun hg35 => gj_yes rfl rfl rfl (y_move rfl) rfl rfl (gj_yes rfl rfl rfl (y_not rfl) rfl rfl (gj_yes rfl rfl rfl (y_move rfl) rfl rfl (gj_g 3 38 41 rfl rfl rfl rfl (fun hg38 => gj_yes rfl rfl rfl (y_fa0 fa30_0 rfl) rfl rfl (gj_yes rfl rfl rfl (y_load1 Tryz.isAgg3 rfl rfl) rfl rfl (gj_yes rfl rfl rfl (y_eql rfl rfl) rfl rfl (gj_nil rfl)))) (gj_yes rfl rfl rfl (y_and rfl rfl rfl) rfl rfl (gj_nil rfl)))))) ?_
  refine gj_step (y_or rfl rfl rfl) rfl rfl rfl (?_)
  refine gj_nil ?_
  refine ej_th ?_
  refine cj_cond rfl (fun h43 => ?_) (fun h43 => ?_)
  · have h43b := h43
    try simp only [sxb] at h43
    rw [seek_has _ _ 0 (Int.le_refl _)] at h43b
    have hr1 : ref1 h c = true := h43b
    refine cj_seq ?_
    refine cj_regionG (gj_step (y_assign rfl) rfl rfl rfl (gj_nil ?_))
    refine ej_th (cj_ret (ej_then_ret ?_))
    exact ej_ret1 rfl Tryz.results44 rfl (fun w' hp => ⟨by rw [← refE_eq hok hc, refE, if_pos hr1], hp.below⟩)
  · have h43b := h43
    try simp only [sxb] at h43
    rw [seek_has _ _ 0 (Int.le_refl _)] at h43b
    have hr1 : ref1 h c = false := h43b
    refine cj_skip (ej_th (cj_seq ?_))
    refine cj_draw (by kernel_rfl) (by kernel_rfl) ?_
    refine gj_step (y_move rfl) rfl rfl rfl (gj_step (y_nil rfl) rfl rfl rfl (gj_step (y_fa0 fa56_0 rfl) rfl rfl rfl (gj_step (y_loadSN Tryz.isAgg26 Tryz.sizeOf26 rfl) rfl rfl rfl (gj_step (y_fa fa60_4 rfl) rfl rfl rfl (gj_step (y_load1 Tryz.isAgg3 rfl rfl) rfl rfl rfl (gj_step (y_shl1I rfl rfl (by omega) (by omega)) rfl rfl rfl (gj_step (y_fa fa60_5 rfl) rfl rfl rfl (gj_step (y_load1 Tryz.isAgg3 rfl rfl) rfl rfl rfl (gj_step (y_shl1I rfl rfl (by omega) (by omega)) rfl rfl rfl (?_))))))))))
    refine gj_step (y_call Tryz.call71 rfl (fun w hp => k_with (2 ^ c.by_.toNat) (2 ^ c.with_.toNat) w (by omega) (by omega))) rfl rfl rfl ?_
    refine gj_step (y_call Tryz.call59 rfl (fun w hp => k_renter s (2 ^ c.by_.toNat ||| 2 ^ c.with_.toNat) w (hs.mono hp.below) hb hgo)) rfl rfl rfl ?_
    refine gj_step (y_assign rfl) rfl rfl rfl (?_)
    refine gj_nil ?_
    refine ej_th (cj_seq (cj_seq ?_))
    rw [show reachV s.s (2 ^ c.by_.toNat ||| 2 ^ c.with_.toNat) = reachC s.s c from rfl]
    refine cj_regionG ?_
    refine gj_step (y_move rfl) rfl rfl rfl (gj_step (y_not rfl) rfl rfl rfl (gj_step (y_move rfl) rfl rfl rfl (?_)))
    refine gj_g 5 58 63 rfl rfl rfl rfl (fun hg58 => gj_yes rfl rfl rfl (y_move rfl) rfl rfl (gj_yes rfl rfl rfl (y_fa0 fa30_0 rfl) rfl rfl (gj_yes rfl rfl rfl (y_load1 Tryz.isAgg3 rfl rfl) rfl rfl (gj_yes rfl rfl rfl (y_call Tryz.call30 rfl (fun w hp => k_BitI (reachC s.s c) (bagAt h.st c.bag).room w ⟨by omega, by omega⟩)) rfl rfl (gj_yes rfl rfl rfl (y_not rfl) rfl rfl (gj_nil rfl)))))) ?_
    refine gj_step (y_and rfl rfl rfl) rfl rfl rfl (gj_step (y_move rfl) rfl rfl rfl (?_))
    refine gj_g 11 65 76 rfl rfl rfl rfl (fun hg65 => gj_yes rfl rfl rfl (y_move rfl) rfl rfl (gj_yes rfl rfl rfl (y_move rfl) rfl rfl (gj_g 1 67 68 rfl rfl rfl rfl (fun hg67 => gj_yes rfl rfl rfl (y_move rfl) rfl rfl (gj_nil rfl)) (gj_yes rfl rfl rfl (y_or rfl rfl rfl) rfl rfl (gj_yes rfl rfl rfl (y_move rfl) rfl rfl (gj_g 5 70 75 rfl rfl rfl rfl (fun hg70 => gj_yes rfl rfl rfl (y_move rfl) rfl rfl (gj_yes rfl rfl rfl (y_fa fa60_3 rfl) rfl rfl (gj_yes rfl rfl rfl (y_load1 Tryz.isAgg3 rfl rfl) rfl rfl (gj_yes rfl rfl rfl (y_call Tryz.call30 rfl (fun w hp => k_BitI (reachC s.s c) c.to_ w ⟨by have h9 := hto hg70; omega, by have h9 := hto hg70; omega⟩)) rfl rfl (gj_yes rfl rfl rfl (y_not rfl) rfl rfl (gj_nil rfl)))))) (gj_yes rfl rfl rfl (y_and rfl rfl rfl) rfl rfl (gj_nil rfl)))))))) ?_
    refine gj_step (y_or rfl rfl rfl) rfl rfl rfl (?_)
    refine gj_nil ?_
    refine ej_th ?_
    refine cj_cond rfl (fun h77 => ?_) (fun h77 => ?_)
    · have h77b := h77
      try simp only [sxb] at h77
      have hr2 : ref2 s.s h c = true := h77b
      refine cj_seq ?_
      refine cj_regionG (gj_step (y_assign rfl) rfl rfl rfl (gj_nil ?_))
      refine ej_th (cj_ret (ej_then_ret ?_))
      exact ej_ret1 rfl Tryz.results44 rfl (fun w' hp => ⟨by rw [← refE_eq hok hc, refE, if_neg (by rw [hr1]; simp), if_pos hr2], hp.below⟩)
    · have h77b := h77
      try simp only [sxb] at h77
      have hr2 : ref2 s.s h c = false := h77b
      refine cj_skip (ej_th (cj_seq (cj_seq ?_)))
      refine cj_draw (by kernel_rfl) (by kernel_rfl) ?_
      refine gj_step (y_move rfl) rfl rfl rfl (gj_step (y_move rfl) rfl rfl rfl (?_))
      refine gj_g 5 79 84 rfl rfl rfl rfl (fun hg79 => gj_yes rfl rfl rfl (y_fa fa60_3 rfl) rfl rfl (gj_yes rfl rfl rfl (y_load1 Tryz.isAgg3 rfl rfl) rfl rfl (gj_yes rfl rfl rfl (y_fa0 fa30_0 rfl) rfl rfl (gj_yes rfl rfl rfl (y_load1 Tryz.isAgg3 rfl rfl) rfl rfl (gj_yes rfl rfl rfl (y_eql rfl rfl) rfl rfl (gj_nil rfl)))))) ?_
      refine gj_step (y_and rfl rfl rfl) rfl rfl rfl (gj_step (y_move rfl) rfl rfl rfl (?_))
      refine gj_g 21 86 107 rfl rfl rfl rfl (fun hg86 => gj_yes rfl rfl rfl (y_move rfl) rfl rfl (gj_yes rfl rfl rfl (y_move rfl) rfl rfl (gj_g 1 88 89 rfl rfl rfl rfl (fun hg88 => gj_yes rfl rfl rfl (y_move rfl) rfl rfl (gj_nil rfl)) (gj_yes rfl rfl rfl (y_or rfl rfl rfl) rfl rfl (gj_yes rfl rfl rfl (y_move rfl) rfl rfl (gj_g 15 91 106 rfl rfl rfl rfl (fun hg91 => gj_yes rfl rfl rfl (y_move rfl) rfl rfl (gj_yes rfl rfl rfl (y_fa fa60_3 rfl) rfl rfl (gj_yes rfl rfl rfl (y_load1 Tryz.isAgg3 rfl rfl) rfl rfl (gj_yes rfl rfl rfl (y_call Tryz.call72 rfl (fun w hp => k_many s h b Ab cb Ae ce As cs An cn c.to_ w hp.bs hp.rd hp.rd hp.rd hl32)) rfl rfl (gj_yes rfl rfl rfl (y_move rfl) rfl rfl (gj_yes rfl rfl rfl (y_nil rfl) rfl rfl (gj_yes rfl rfl rfl (y_fa0 fa56_0 rfl) rfl rfl (gj_yes rfl rfl rfl (y_fa0 fa26_0 rfl) rfl rfl (gj_yes rfl rfl rfl (y_loadS1 Tryz.isAgg22 rfl rfl) rfl rfl (gj_yes rfl rfl rfl (y_fa fa60_3 rfl) rfl rfl (gj_yes rfl rfl rfl (y_load1 Tryz.isAgg3 rfl rfl) rfl rfl (gj_yes rfl rfl rfl (y_ixR (reads_sl) Tryz.underlying22 Tryz.sizeOf73 rfl rfl (⟨by have h9 := hto hg91; omega, by have h9 := hto hg91; omega⟩)) rfl rfl (gj_yes rfl rfl rfl (y_faE fa73_0 rfl) rfl rfl (gj_yes rfl rfl rfl (y_ld1 (reads_sl) Tryz.isAgg3 rfl ((hto hg91).2.2.1) rfl) rfl rfl (gj_yes rfl rfl rfl (y_geq rfl rfl) rfl rfl (gj_nil rfl)))))))))))))))) (gj_yes rfl rfl rfl (y_and rfl rfl rfl) rfl rfl (gj_nil rfl)))))))) ?_
      refine gj_step (y_or rfl rfl rfl) rfl rfl rfl (?_)
      refine gj_nil ?_
      refine ej_th ?_
      refine cj_cond rfl (fun h108 => ?_) (fun h108 => ?_)
      · have h108b := h108
        try simp only [sxb] at h108
        have hr3 : ref3 s.s h c = true := h108b
        refine cj_seq ?_
        refine cj_regionG (gj_step (y_assign rfl) rfl rfl rfl (gj_nil ?_))
        refine ej_th (cj_ret (ej_then_ret ?_))
        exact ej_ret1 rfl Tryz.results44 rfl (fun w' hp => ⟨by rw [← refE_eq hok hc, refE, if_neg (by rw [hr1]; simp), if_neg (by rw [hr2]; simp), if_pos hr3], hp.below⟩)
      · have h108b := h108
        try simp only [sxb] at h108
        have hr3 : ref3 s.s h c = false := h108b
        refine cj_skip (ej_th (cj_seq ?_))
        refine cj_regionG (gj_step (y_fa fa30_2 rfl) rfl rfl rfl (gj_step (y_load1 Tryz.isAgg3 rfl rfl) rfl rfl rfl (gj_step (y_assign rfl) rfl rfl rfl (gj_nil ?_))))
        refine ej_th ?_
        refine cj_cutic (X := Int) [(0, _), (3, _), (4, _), (5, _), (6, _), (7, _)] ⟨rfl, rfl, rfl, rfl, rfl, rfl, trivial⟩ (fun su => su = if c.kind = 1 then c.suits else (bagAt h.st c.bag).suits) (fun su => [(9, .int .i64 su)]) ?_ ?_
        · refine cj_seq ?_
          refine cj_regionG (gj_step (y_move rfl) rfl rfl rfl (gj_nil ?_))
          refine ej_th ?_
          refine cj_cond rfl (fun h111 => ?_) (fun h111 => ?_)
          · have h111b := h111
            try simp only [sxb] at h111
            refine cj_regionG (gj_step (y_fa fa60_7 rfl) rfl rfl rfl (gj_step (y_load1 Tryz.isAgg3 rfl rfl) rfl rfl rfl (gj_step (y_assign rfl) rfl rfl rfl (gj_nil ?_))))
            exact ej_ct c.suits (by rw [if_pos (by simpa using h111)]) ⟨rfl, rfl, rfl, rfl, rfl, rfl, rfl, trivial⟩
          · have h111b := h111
            try simp only [sxb] at h111
            refine cj_skip ?_
            exact ej_ct (bagAt h.st c.bag).suits (by rw [if_neg (by simpa using h111)]) ⟨rfl, rfl, rfl, rfl, rfl, rfl, rfl, trivial⟩
        · rintro su hsu
          dsimp only [List.cons_append, List.nil_append]
          have hsu0 : 0 ≤ su := by
            rw [hsu]
            split
            · rename_i h9; have h8 := hc.suits h9; omega
            · omega
          refine cj_seq (cj_seq ?_)
          refine cj_draw (by kernel_rfl) (by kernel_rfl) ?_
          refine gj_step (y_move rfl) rfl rfl rfl (gj_step (y_move rfl) rfl rfl rfl (?_))
          refine gj_g 1 115 116 rfl rfl rfl rfl (fun hg115 => gj_yes rfl rfl rfl (y_move rfl) rfl rfl (gj_nil rfl)) ?_
          refine gj_step (y_or rfl rfl rfl) rfl rfl rfl (gj_step (y_move rfl) rfl rfl rfl (?_))
          refine gj_g 13 118 131 rfl rfl rfl rfl (fun hg118 => gj_yes rfl rfl rfl (y_move rfl) rfl rfl (gj_yes rfl rfl rfl (y_move rfl) rfl rfl (gj_yes rfl rfl rfl (y_nil rfl) rfl rfl (gj_yes rfl rfl rfl (y_fa0 fa56_0 rfl) rfl rfl (gj_yes rfl rfl rfl (y_fa0 fa26_0 rfl) rfl rfl (gj_yes rfl rfl rfl (y_loadS1 Tryz.isAgg22 rfl rfl) rfl rfl (gj_yes rfl rfl rfl (y_fa fa60_3 rfl) rfl rfl (gj_yes rfl rfl rfl (y_load1 Tryz.isAgg3 rfl rfl) rfl rfl (gj_yes rfl rfl rfl (y_ixR (reads_sl) Tryz.underlying22 Tryz.sizeOf73 rfl rfl (⟨by have h9 := hto hg118; omega, by have h9 := hto hg118; omega⟩)) rfl rfl (gj_yes rfl rfl rfl (y_faE fa73_1 rfl) rfl rfl (gj_yes rfl rfl rfl (y_ld1 (reads_sl) Tryz.isAgg3 rfl ((hto hg118).2.2.1) rfl) rfl rfl (gj_yes rfl rfl rfl (y_call Tryz.call30 rfl (fun w hp => k_BitZ su (roomAt s.s c.to_).climate w hsu0 (by have h9 := hto hg118; omega) (by have h9 := hto hg118; omega))) rfl rfl (gj_yes rfl rfl rfl (y_not rfl) rfl rfl (gj_nil rfl)))))))))))))) ?_
          refine gj_step (y_and rfl rfl rfl) rfl rfl rfl (?_)
          refine gj_nil ?_
          refine ej_th ?_
          refine cj_cond rfl (fun h132 => ?_) (fun h132 => ?_)
          · have h132b := h132
            try simp only [sxb] at h132
            rw [hsu] at h132b
            have hr4 : ref4 s.s h c = true := h132b
            refine cj_seq ?_
            refine cj_regionG (gj_step (y_assign rfl) rfl rfl rfl (gj_nil ?_))
            refine ej_th (cj_ret (ej_then_ret ?_))
            exact ej_ret1 rfl Tryz.results44 rfl (fun w' hp => ⟨by rw [← refE_eq hok hc, refE, if_neg (by rw [hr1]; simp), if_neg (by rw [hr2]; simp), if_neg (by rw [hr3]; simp), if_pos hr4], hp.below⟩)
          · have h132b := h132
            try simp only [sxb] at h132
            rw [hsu] at h132b
            have hr4 : ref4 s.s h c = false := h132b
            refine cj_skip (ej_th (cj_seq (cj_seq ?_)))
            refine cj_draw (by kernel_rfl) (by kernel_rfl) ?_
            refine gj_step (y_fa fa60_1 rfl) rfl rfl rfl (gj_step (y_load1 Tryz.isAgg3 rfl rfl) rfl rfl rfl (gj_step (y_eql rfl rfl) rfl rfl rfl (gj_step (y_move rfl) rfl rfl rfl (?_))))
            refine gj_g 5 136 141 rfl rfl rfl rfl (fun hg136 => gj_yes rfl rfl rfl (y_fa fa60_6 rfl) rfl rfl (gj_yes rfl rfl rfl (y_load1 Tryz.isAgg3 rfl rfl) rfl rfl (gj_yes rfl rfl rfl (y_fa fa30_1 rfl) rfl rfl (gj_yes rfl rfl rfl (y_load1 Tryz.isAgg3 rfl rfl) rfl rfl (gj_yes rfl rfl rfl (y_neq rfl rfl) rfl rfl (gj_nil rfl)))))) ?_
            refine gj_step (y_and rfl rfl rfl) rfl rfl rfl (gj_step (y_move rfl) rfl rfl rfl (?_))
            refine gj_g 16 143 159 rfl rfl rfl rfl (fun hg143 => gj_yes rfl rfl rfl (y_move rfl) rfl rfl (gj_yes rfl rfl rfl (y_move rfl) rfl rfl (gj_g 3 145 148 rfl rfl rfl rfl (fun hg145 => gj_yes rfl rfl rfl (y_fa fa60_1 rfl) rfl rfl (gj_yes rfl rfl rfl (y_load1 Tryz.isAgg3 rfl rfl) rfl rfl (gj_yes rfl rfl rfl (y_eql rfl rfl) rfl rfl (gj_nil rfl)))) (gj_yes rfl rfl rfl (y_or rfl rfl rfl) rfl rfl (gj_yes rfl rfl rfl (y_move rfl) rfl rfl (gj_g 8 150 158 rfl rfl rfl rfl (fun hg150 => gj_yes rfl rfl rfl (y_move rfl) rfl rfl (gj_yes rfl rfl rfl (y_nil rfl) rfl rfl (gj_yes rfl rfl rfl (y_fa fa56_3 rfl) rfl rfl (gj_yes rfl rfl rfl (y_loadS1 Tryz.isAgg24 rfl rfl) rfl rfl (gj_yes rfl rfl rfl (y_fa fa60_6 rfl) rfl rfl (gj_yes rfl rfl rfl (y_load1 Tryz.isAgg3 rfl rfl) rfl rfl (gj_yes rfl rfl rfl (y_call Tryz.call61 rfl (fun w hp => k_Seek h.st.seals c.mark As cs w hp.rd)) rfl rfl (gj_yes rfl rfl rfl (y_geq rfl rfl) rfl rfl (gj_nil rfl))))))))) (gj_yes rfl rfl rfl (y_and rfl rfl rfl) rfl rfl (gj_nil rfl)))))))) ?_
            refine gj_step (y_or rfl rfl rfl) rfl rfl rfl (?_)
            refine gj_nil ?_
            refine ej_th ?_
            refine cj_cond rfl (fun h160 => ?_) (fun h160 => ?_)
            · have h160b := h160
              try simp only [sxb] at h160
              rw [seek_has _ _ 0 (Int.le_refl _)] at h160b
              have hr5 : ref5 h c = true := h160b
              refine cj_seq ?_
              refine cj_regionG (gj_step (y_assign rfl) rfl rfl rfl (gj_nil ?_))
              refine ej_th (cj_ret (ej_then_ret ?_))
              exact ej_ret1 rfl Tryz.results44 rfl (fun w' hp => ⟨by rw [← refE_eq hok hc, refE, if_neg (by rw [hr1]; simp), if_neg (by rw [hr2]; simp), if_neg (by rw [hr3]; simp), if_neg (by rw [hr4]; simp), if_pos hr5], hp.below⟩)
            · have h160b := h160
              try simp only [sxb] at h160
              rw [seek_has _ _ 0 (Int.le_refl _)] at h160b
              have hr5 : ref5 h c = false := h160b
              refine cj_skip (ej_th (cj_seq ?_))
              refine cj_regionG (gj_step (y_assign rfl) rfl rfl rfl (gj_nil ?_))
              refine ej_th (cj_ret ?_)
              exact ej_ret1 rfl Tryz.results44 rfl (fun w' hp => ⟨by rw [← refE_eq hok hc, refE, if_neg (by rw [hr1]; simp), if_neg (by rw [hr2]; simp), if_neg (by rw [hr3]; simp), if_neg (by rw [hr4]; simp), if_neg (by rw [hr5]; simp)], hp.below⟩)

end Go.Proofs.YtomidcehahdmbaaGreat
namespace Go.Proofs.YtomidcehahdmbaaGreat
open Go.Sx Go.RowKit
set_option maxRecDepth 20000
theorem fa56_4 : FieldIs Tryz.prog 56 4 6 1 false := ⟨⟨_, _, Tryz.underlying56, rfl, rfl, Tryz.sizeOf24, Tryz.isAgg24, by decide⟩⟩
end Go.Proofs.YtomidcehahdmbaaGreat
namespace Go.Proofs.YtomidcehahdmbaaGreat
open Go.Sx Go.RowKit Vm
set_option maxRecDepth 20000
set_option maxHeartbeats 3200000 in
theorem k_do (s : StrV) (h : HS) (k : Nat) (c : CarryV) (b : Nat) (Ab : Option Addr) (cb : Nat) (Ae : Option Addr) (ce : Nat) (As : Option Addr) (cs : Nat) (An : Option Addr) (cn : Nat) (w : World) (hok : Hok s.s k h) (hk : k ≤ 64) (hc : COk s.s c) (hb : strB s.s = true) (hO : ∀ f ∈ [ownB b (cellsB 56 [.slice s.Ar s.rooms.length s.cr, .slice s.Ag s.gates.length s.cg, .slice s.As s.staff.length s.cs, .slice Ab 32 cb, .slice Ae h.ever.length ce, .slice As h.st.seals.length cs, .slice An 32 cn]), ow 30 5 encBa Ab cb h.st.bags, ow 3 1 enInt Ae ce h.ever, ow 3 1 enInt As cs h.st.seals, ow 3 1 enInt An cn h.since], f.P w ∧ ∀ b, f.fp b → b < w.heap.size) (hap : [ownB b (cellsB 56 [.slice s.Ar s.rooms.length s.cr, .slice s.Ag s.gates.length s.cg, .slice s.As s.staff.length s.cs, .slice Ab 32 cb, .slice Ae h.ever.length ce, .slice As h.st.seals.length cs, .slice An 32 cn]), ow 30 5 encBa Ab cb h.st.bags, ow 3 1 enInt Ae ce h.ever, ow 3 1 enInt As cs h.st.seals, ow 3 1 enInt An cn h.since].Pairwise (fun f g => ∀ b, f.fp b → ¬ g.fp b)) : Calls Tryz.prog 45 #[.pointer (some ⟨b, 0, none⟩), .agg #[.int .i64 c.day, .int .i64 c.kind, .int .i64 c.bag, .int .i64 c.to_, .int .i64 c.by_, .int .i64 c.with_, .int .i64 c.mark, .int .i64 c.suits]] w (fun e w' => ∃ z : (Option Addr × Nat) × Option Addr × Nat, e = .returned (.tuple #[]) ∧ Giv [ownB b (cellsB 56 [.slice s.Ar s.rooms.length s.cr, .slice s.Ag s.gates.length s.cg, .slice s.As s.staff.length s.cs, .slice Ab 32 cb, .slice Ae h.ever.length ce, .slice As h.st.seals.length cs, .slice An 32 cn]), ow 30 5 encBa Ab cb h.st.bags, ow 3 1 enInt Ae ce h.ever, ow 3 1 enInt As cs h.st.seals, ow 3 1 enInt An cn h.since] w w' [ownB b (cellsB 56 [.slice s.Ar s.rooms.length s.cr, .slice s.Ag s.gates.length s.cg, .slice s.As s.staff.length s.cs, .slice Ab 32 cb, .slice z.1.1 (hstep h c).ever.length z.1.2, .slice z.2.1 (hstep h c).st.seals.length z.2.2, .slice An 32 cn]), ow 30 5 encBa Ab cb (hstep h c).st.bags, ow 3 1 enInt z.1.1 z.1.2 (hstep h c).ever, ow 3 1 enInt z.2.1 z.2.2 (hstep h c).st.seals, ow 3 1 enInt An cn (hstep h c).since]) := by
  have hl32 := hok.inv.len
  have hsl := hok.len
  have hcb := hc.bag
  have hbx := bagAt_get hok.inv hcb
  have hbn := hok.inv.nums _ _ hbx
  have hel := hok.el
  have hsel := hok.sl
  have hsd := getD_bd hok.bd c.bag.toNat
  have hsa : h.since[c.bag.toNat]? = some (h.since.getD c.bag.toNat 0) := by
    rw [List.getD_eq_getElem?_getD, List.getElem?_eq_getElem (by omega : c.bag.toNat < h.since.length)]; rfl
  have hnr := (rooms_le hb).2.1
  have hrl9 : h.st.bags.length = 32 := hl32
  have hto : c.kind = 1 ∨ c.kind = 2 → 1 ≤ c.to_ ∧ c.to_ ≤ 5 := fun h9 => by have h8 := hc.to1 h9; omega
  obtain ⟨bx, hbxe⟩ : ∃ bx, (bagAt h.st c.bag) = bx := ⟨_, rfl⟩
  rw [hbxe] at hbx hbn
  refine enterO (args := [.pointer (some ⟨b, 0, none⟩), .agg #[.int .i64 c.day, .int .i64 c.kind, .int .i64 c.bag, .int .i64 c.to_, .int .i64 c.by_, .int .i64 c.with_, .int .i64 c.mark, .int .i64 c.suits]]) [ownB b (cellsB 56 [.slice s.Ar s.rooms.length s.cr, .slice s.Ag s.gates.length s.cg, .slice s.As s.staff.length s.cs, .slice Ab 32 cb, .slice Ae h.ever.length ce, .slice As h.st.seals.length cs, .slice An 32 cn]), ow 30 5 encBa Ab cb h.st.bags, ow 3 1 enInt Ae ce h.ever, ow 3 1 enInt As cs h.st.seals, ow 3 1 enInt An cn h.since] [] Tryz.func45 rfl (by rw [Tryz.ntmps45]; simp) hO hap (fun g hg => by cases hg) ?_
  refine cj_seq (cj_region ?_)
  refine oj_box rfl rfl rfl (fun b3 => ?_)
  refine oj_nil ?_
  refine ej_th (cj_seq ?_)
  refine cj_draw (by kernel_rfl) (by kernel_rfl) (gj_step (y_move rfl) rfl rfl rfl (gj_step (y_nil rfl) rfl rfl rfl (gj_step (y_fa fa56_1 rfl) rfl rfl rfl (gj_step (y_load1 Tryz.isAgg54 rfl rfl) rfl rfl rfl (gj_step (y_move rfl) rfl rfl rfl (gj_step (y_nil rfl) rfl rfl rfl (gj_step (y_fa fa56_4 rfl) rfl rfl rfl (gj_step (y_load1 Tryz.isAgg24 rfl rfl) rfl rfl rfl (gj_step (y_assign rfl) rfl rfl rfl (gj_step (y_assign rfl) rfl rfl rfl (gj_nil ?_)))))))))))
  refine ej_th (cj_seq (cj_region ?_))
  refine oj_step (y_move rfl) rfl rfl rfl ?_
  refine oj_step (y_fa fa60_2 rfl) rfl rfl rfl ?_
  refine oj_step (y_load1 Tryz.isAgg3 rfl rfl) rfl rfl rfl ?_
  refine oj_step (y_ixRm (m := 32) (xs := h.st.bags) hl32.symm (reads_ow enBa_len) Tryz.underlying54 Tryz.sizeOf30 rfl rfl ⟨by omega, by omega⟩) rfl rfl rfl ?_
  refine oj_step (y_ldW (reads_ow enBa_len) Tryz.isAgg30 Tryz.sizeOf30 rfl hbx (fun _ => rfl)) rfl rfl rfl ?_
  refine oj_alloc Tryz.zeroValue30 rfl rfl (fun b6 => ?_)
  refine oj_store rfl rfl rfl rfl Tryz.sizeOf30 rfl ?_
  refine oj_nil ?_
  refine ej_th (cj_seq ?_)
  refine cj_plan 8 (by kernel_rfl) (by kernel_rfl) ?_
  refine pl_y 0 rfl (y_fa fa60_4 rfl) rfl rfl rfl rfl (by kernel_rfl) ?_
  refine pl_y 1 rfl (y_load1 Tryz.isAgg3 rfl rfl) rfl rfl rfl rfl (by kernel_rfl) ?_
  refine pl_y 2 rfl (y_fa fa60_5 rfl) rfl rfl rfl rfl (by kernel_rfl) ?_
  refine pl_y 3 rfl (y_load1 Tryz.isAgg3 rfl rfl) rfl rfl rfl rfl (by kernel_rfl) ?_
  refine pl_y 4 rfl (y_fa fa30_3 rfl) rfl rfl rfl rfl (by kernel_rfl) ?_
  refine pl_w1 5 (by kernel_rfl) rfl rfl (pl_fire rfl rfl rfl (by kernel_rfl) ?_)
  refine oj_store rfl rfl rfl rfl Tryz.sizeOf3 rfl ?_
  refine oj_nil ?_
  refine ej_pl (lt_w (by kernel_rfl) (lt_y (y_load1 Tryz.isAgg3 rfl rfl) rfl (lt_y (y_fa fa60_5 rfl) rfl (lt_w (by kernel_rfl) (lt_w (by kernel_rfl) (lt_nil)))))) ?_
  refine pl_y 6 rfl (y_fa fa30_4 rfl) rfl rfl rfl rfl (by kernel_rfl) ?_
  refine pl_w1 7 (by kernel_rfl) rfl rfl (pl_fire rfl rfl rfl (by kernel_rfl) ?_)
  refine oj_store rfl rfl rfl rfl Tryz.sizeOf3 rfl ?_
  refine oj_nil ?_
  refine ej_pl (lt_w (by kernel_rfl) (lt_w (by kernel_rfl) (lt_w (by kernel_rfl) (lt_w (by kernel_rfl) (lt_w (by kernel_rfl) (lt_w (by kernel_rfl) (lt_nil))))))) ?_
  refine pl_end (by kernel_rfl) ?_
  refine ej_th ?_
  refine cj_cuti (X := (Option Addr × Nat) × Option Addr × Nat) [(3, _), (4, _), (6, _)] ⟨rfl, rfl, rfl, trivial⟩ (fun ⟨⟨Ae2, ce2⟩, As2, cs2⟩ => True) (fun ⟨⟨Ae2, ce2⟩, As2, cs2⟩ => []) (fun ⟨⟨Ae2, ce2⟩, As2, cs2⟩ => [ownB b (cellsB 56 [.slice s.Ar s.rooms.length s.cr, .slice s.Ag s.gates.length s.cg, .slice s.As s.staff.length s.cs, .slice Ab 32 cb, .slice Ae2 (evN h.ever c).length ce2, .slice As2 ((stepN h.st c).seals).length cs2, .slice An 32 cn]), ow 30 5 encBa Ab cb h.st.bags, ow 3 1 enInt Ae2 ce2 (evN h.ever c), ow 3 1 enInt As2 cs2 ((stepN h.st c).seals), ow 3 1 enInt An cn (sinN h.since h.st c), ownB b6 (cellsB 30 (encBa (newBag (bagAt h.st c.bag) c))), ownB b3 (cellsB 60 (encCa c))]) (fun ⟨⟨Ae2, ce2⟩, As2, cs2⟩ => []) ?_ ?_
  · refine cj_seq ?_
    refine cj_regionG (gj_step (y_fa fa60_1 rfl) rfl rfl rfl (gj_step (y_load1 Tryz.isAgg3 rfl rfl) rfl rfl rfl (gj_nil ?_)))
    refine ej_th (cj_block (cj_seq ?_))
    refine cj_regionG (gj_step (y_eql rfl rfl) rfl rfl rfl (gj_step (y_assign rfl) rfl rfl rfl (gj_nil ?_)))
    refine ej_th ?_
    refine cj_cond rfl (fun h30 => ?_) (fun h30 => ?_)
    · have h30b := h30
      try simp only [sxb] at h30
      have hk1 : c.kind = 1 := by simpa using h30
      have hev : evN h.ever c = h.ever ++ [c.bag] := by rw [evN, if_pos hk1]
      have hse : (stepN h.st c).seals = h.st.seals ++ [c.mark] := by
        show (if c.kind = 1 ∨ c.kind = 4 then h.st.seals ++ [c.mark] else h.st.seals) = _
        rw [if_pos (.inl hk1)]
      have hsi : sinN h.since h.st c = h.since.set c.bag.toNat ((2 ^ c.to_.toNat : Nat) : Int) := by
        unfold sinN
        rw [if_pos hk1]
      have hnb : newBag (bagAt h.st c.bag) c = ⟨c.to_, c.mark, c.suits, c.by_, c.with_⟩ := by
        unfold newBag
        rw [if_pos hk1]
      refine cj_seq ?_
      refine cj_plan 12 (by kernel_rfl) (by kernel_rfl) ?_
      refine pl_y 0 rfl (y_fa fa60_3 rfl) rfl rfl rfl rfl (by kernel_rfl) ?_
      refine pl_y 1 rfl (y_load1 Tryz.isAgg3 rfl rfl) rfl rfl rfl rfl (by kernel_rfl) ?_
      refine pl_y 2 rfl (y_fa fa60_6 rfl) rfl rfl rfl rfl (by kernel_rfl) ?_
      refine pl_y 3 rfl (y_load1 Tryz.isAgg3 rfl rfl) rfl rfl rfl rfl (by kernel_rfl) ?_
      refine pl_y 4 rfl (y_fa fa60_7 rfl) rfl rfl rfl rfl (by kernel_rfl) ?_
      refine pl_y 5 rfl (y_load1 Tryz.isAgg3 rfl rfl) rfl rfl rfl rfl (by kernel_rfl) ?_
      refine pl_y 6 rfl (y_fa0 fa30_0 rfl) rfl rfl rfl rfl (by kernel_rfl) ?_
      refine pl_w1 7 (by kernel_rfl) rfl rfl (pl_fire rfl rfl rfl (by kernel_rfl) ?_)
      refine oj_store rfl rfl rfl rfl Tryz.sizeOf3 rfl ?_
      refine oj_nil ?_
      refine ej_pl (lt_w (by kernel_rfl) (lt_y (y_load1 Tryz.isAgg3 rfl rfl) rfl (lt_y (y_fa fa60_7 rfl) rfl (lt_y (y_load1 Tryz.isAgg3 rfl rfl) rfl (lt_y (y_fa fa60_6 rfl) rfl (lt_w (by kernel_rfl) (lt_w (by kernel_rfl) (lt_nil)))))))) ?_
      refine pl_y 8 rfl (y_fa fa30_1 rfl) rfl rfl rfl rfl (by kernel_rfl) ?_
      refine pl_w1 9 (by kernel_rfl) rfl rfl (pl_fire rfl rfl rfl (by kernel_rfl) ?_)
      refine oj_store rfl rfl rfl rfl Tryz.sizeOf3 rfl ?_
      refine oj_nil ?_
      refine ej_pl (lt_w (by kernel_rfl) (lt_w (by kernel_rfl) (lt_y (y_load1 Tryz.isAgg3 rfl rfl) rfl (lt_y (y_fa fa60_7 rfl) rfl (lt_w (by kernel_rfl) (lt_w (by kernel_rfl) (lt_w (by kernel_rfl) (lt_w (by kernel_rfl) (lt_nil))))))))) ?_
      refine pl_y 10 rfl (y_fa fa30_2 rfl) rfl rfl rfl rfl (by kernel_rfl) ?_
      refine pl_w1 11 (by kernel_rfl) rfl rfl (pl_fire rfl rfl rfl (by kernel_rfl) ?_)
      refine oj_store rfl rfl rfl rfl Tryz.sizeOf3 rfl ?_
      refine oj_nil ?_
      refine ej_pl (lt_w (by kernel_rfl) (lt_w (by kernel_rfl) (lt_w (by kernel_rfl) (lt_w (by kernel_rfl) (lt_w (by kernel_rfl) (lt_w (by kernel_rfl) (lt_w (by kernel_rfl) (lt_w (by kernel_rfl) (lt_w (by kernel_rfl) (lt_nil)))))))))) ?_
      refine pl_end (by kernel_rfl) ?_
      refine ej_th ?_
      refine cj_cuti (X := (Option Addr × Nat) × Option Addr × Nat) [(3, _), (4, _), (5, _), (6, _)] ⟨rfl, rfl, rfl, rfl, trivial⟩ (fun ⟨⟨Ae1, ce1⟩, As1, cs1⟩ => True) (fun ⟨⟨Ae1, ce1⟩, As1, cs1⟩ => []) (fun ⟨⟨Ae1, ce1⟩, As1, cs1⟩ => [ownB b (cellsB 56 [.slice s.Ar s.rooms.length s.cr, .slice s.Ag s.gates.length s.cg, .slice s.As s.staff.length s.cs, .slice Ab 32 cb, .slice Ae1 (h.ever ++ [c.bag]).length ce1, .slice As1 (h.st.seals ++ [c.mark]).length cs1, .slice An 32 cn]), ow 30 5 encBa Ab cb h.st.bags, ow 3 1 enInt Ae1 ce1 (h.ever ++ [c.bag]), ow 3 1 enInt As1 cs1 (h.st.seals ++ [c.mark]), ow 3 1 enInt An cn (h.since), ownB b6 (cellsB 30 (encBa ⟨c.to_, c.mark, c.suits, c.by_, c.with_⟩)), ownB b3 (cellsB 60 (encCa c))]) (fun ⟨⟨Ae1, ce1⟩, As1, cs1⟩ => []) ?_ ?_
      · refine cj_plan 24 (by kernel_rfl) (by kernel_rfl) ?_
        refine pl_y 0 rfl (y_move rfl) rfl rfl rfl rfl (by kernel_rfl) ?_
        refine pl_y 1 rfl (y_move rfl) rfl rfl rfl rfl (by kernel_rfl) ?_
        refine pl_y 2 rfl (y_move rfl) rfl rfl rfl rfl (by kernel_rfl) ?_
        refine pl_y 3 rfl (y_nil rfl) rfl rfl rfl rfl (by kernel_rfl) ?_
        refine pl_y 4 rfl (y_fa fa56_2 rfl) rfl rfl rfl rfl (by kernel_rfl) ?_
        refine pl_y 5 rfl (y_load1 Tryz.isAgg24 rfl rfl) rfl rfl rfl rfl (by kernel_rfl) ?_
        refine pl_y 6 rfl (y_fa fa60_2 rfl) rfl rfl rfl rfl (by kernel_rfl) ?_
        refine pl_y 7 rfl (y_load1 Tryz.isAgg3 rfl rfl) rfl rfl rfl rfl (by kernel_rfl) ?_
        refine pl_y 10 rfl (y_move rfl) rfl rfl rfl rfl (by kernel_rfl) ?_
        refine pl_y 11 rfl (y_nil rfl) rfl rfl rfl rfl (by kernel_rfl) ?_
        refine pl_y 12 rfl (y_fa fa56_3 rfl) rfl rfl rfl rfl (by kernel_rfl) ?_
        refine pl_y 13 rfl (y_load1 Tryz.isAgg24 rfl rfl) rfl rfl rfl rfl (by kernel_rfl) ?_
        refine pl_y 14 rfl (y_fa fa60_6 rfl) rfl rfl rfl rfl (by kernel_rfl) ?_
        refine pl_y 15 rfl (y_load1 Tryz.isAgg3 rfl rfl) rfl rfl rfl rfl (by kernel_rfl) ?_
        refine pl_w2 8 16 (by kernel_rfl) rfl rfl (pl_fire rfl rfl rfl (by kernel_rfl) ?_) (pl_fire rfl rfl rfl (by kernel_rfl) ?_)
        · refine oj_buildSlice (cs := [.int .i64 c.bag]) [.int .i64 0] Tryz.underlying24 Tryz.sizeOf3 Tryz.zeroValue3 rfl rfl (by kernel_rfl) (by kernel_rfl) rfl (fun b49 => ?_)
          refine oj_nil ?_
          refine ej_pl (lt_y (y_load1 Tryz.isAgg3 rfl rfl) rfl (lt_y (y_fa fa60_6 rfl) rfl (lt_y (y_load1 Tryz.isAgg24 rfl rfl) rfl (lt_y (y_fa fa56_3 rfl) rfl (lt_y (y_nil rfl) rfl (lt_y (y_move rfl) rfl (lt_w (by kernel_rfl) (lt_y (y_fa fa60_2 rfl) rfl (lt_y (y_load1 Tryz.isAgg24 rfl rfl) rfl (lt_y (y_fa fa56_2 rfl) rfl (lt_y (y_nil rfl) rfl (lt_y (y_move rfl) rfl (lt_y (y_move rfl) rfl (lt_y (y_move rfl) rfl (lt_nil))))))))))))))) ?_
          refine pl_w2 9 16 (by kernel_rfl) rfl rfl (pl_fire rfl rfl rfl (by kernel_rfl) ?_) (pl_fire rfl rfl rfl (by kernel_rfl) ?_)
          · refine oj_append  el24 (fun _ => rfl) enInt_one rfl rfl rfl (reads_lit [c.bag] (fun _ => rfl) rfl) (by unfold maxLen; simp only [List.length_append, List.length_cons, List.length_nil]; omega) (by simp only [List.length_append, List.length_cons, List.length_nil]; omega) rfl (fun A50 c50 => ?_)
            refine oj_nil ?_
            refine ej_pl (lt_y (y_load1 Tryz.isAgg3 rfl rfl) rfl (lt_y (y_fa fa60_6 rfl) rfl (lt_y (y_load1 Tryz.isAgg24 rfl rfl) rfl (lt_y (y_fa fa56_3 rfl) rfl (lt_y (y_nil rfl) rfl (lt_y (y_move rfl) rfl (lt_y (y_load1 Tryz.isAgg3 rfl rfl) rfl (lt_y (y_fa fa60_2 rfl) rfl (lt_w (by kernel_rfl) (lt_y (y_fa fa56_2 rfl) rfl (lt_y (y_nil rfl) rfl (lt_y (y_move rfl) rfl (lt_y (y_move rfl) rfl (lt_y (y_move rfl) rfl (lt_nil))))))))))))))) ?_
            refine pl_w1 16 (by kernel_rfl) rfl rfl (pl_fire rfl rfl rfl (by kernel_rfl) ?_)
            refine oj_buildSlice (cs := [.int .i64 c.mark]) [.int .i64 0] Tryz.underlying24 Tryz.sizeOf3 Tryz.zeroValue3 rfl rfl (by kernel_rfl) (by kernel_rfl) rfl (fun b57 => ?_)
            refine oj_nil ?_
            refine ej_pl (lt_w (by kernel_rfl) (lt_y (y_fa fa60_6 rfl) rfl (lt_y (y_load1 Tryz.isAgg24 rfl rfl) rfl (lt_y (y_fa fa56_3 rfl) rfl (lt_y (y_nil rfl) rfl (lt_y (y_move rfl) rfl (lt_y (y_load1 Tryz.isAgg3 rfl rfl) rfl (lt_y (y_fa fa60_2 rfl) rfl (lt_y (y_load1 Tryz.isAgg24 rfl rfl) rfl (lt_y (y_fa fa56_2 rfl) rfl (lt_y (y_nil rfl) rfl (lt_y (y_move rfl) rfl (lt_y (y_move rfl) rfl (lt_y (y_move rfl) rfl (lt_nil))))))))))))))) ?_
            refine pl_w1 17 (by kernel_rfl) rfl rfl (pl_fire rfl rfl rfl (by kernel_rfl) ?_)
            refine oj_append  el24 (fun _ => rfl) enInt_one rfl rfl rfl (reads_lit [c.mark] (fun _ => rfl) rfl) (by unfold maxLen; simp only [List.length_append, List.length_cons, List.length_nil]; omega) (by simp only [List.length_append, List.length_cons, List.length_nil]; omega) rfl (fun A58 c58 => ?_)
            refine oj_nil ?_
            refine ej_pl (lt_y (y_load1 Tryz.isAgg3 rfl rfl) rfl (lt_y (y_fa fa60_6 rfl) rfl (lt_w (by kernel_rfl) (lt_y (y_fa fa56_3 rfl) rfl (lt_y (y_nil rfl) rfl (lt_y (y_move rfl) rfl (lt_y (y_load1 Tryz.isAgg3 rfl rfl) rfl (lt_y (y_fa fa60_2 rfl) rfl (lt_y (y_load1 Tryz.isAgg24 rfl rfl) rfl (lt_y (y_fa fa56_2 rfl) rfl (lt_y (y_nil rfl) rfl (lt_y (y_move rfl) rfl (lt_y (y_move rfl) rfl (lt_y (y_move rfl) rfl (lt_nil))))))))))))))) ?_
            refine pl_y 18 rfl (y_nil rfl) rfl rfl rfl rfl (by kernel_rfl) ?_
            refine pl_y 19 rfl (y_fa fa56_2 rfl) rfl rfl rfl rfl (by kernel_rfl) ?_
            refine pl_w1 20 (by kernel_rfl) rfl rfl (pl_fire rfl rfl rfl (by kernel_rfl) ?_)
            refine oj_store rfl rfl rfl rfl Tryz.sizeOf24 rfl ?_
            refine oj_nil ?_
            refine ej_pl (lt_w (by kernel_rfl) (lt_y (y_nil rfl) rfl (lt_y (y_load1 Tryz.isAgg3 rfl rfl) rfl (lt_y (y_fa fa60_6 rfl) rfl (lt_w (by kernel_rfl) (lt_y (y_fa fa56_3 rfl) rfl (lt_y (y_nil rfl) rfl (lt_y (y_move rfl) rfl (lt_w (by kernel_rfl) (lt_w (by kernel_rfl) (lt_w (by kernel_rfl) (lt_w (by kernel_rfl) (lt_w (by kernel_rfl) (lt_w (by kernel_rfl) (lt_y (y_move rfl) rfl (lt_w (by kernel_rfl) (lt_nil))))))))))))))))) ?_
            refine pl_y 21 rfl (y_nil rfl) rfl rfl rfl rfl (by kernel_rfl) ?_
            refine pl_y 22 rfl (y_fa fa56_3 rfl) rfl rfl rfl rfl (by kernel_rfl) ?_
            refine pl_w1 23 (by kernel_rfl) rfl rfl (pl_fire rfl rfl rfl (by kernel_rfl) ?_)
            refine oj_store rfl rfl rfl rfl Tryz.sizeOf24 rfl ?_
            refine oj_nil ?_
            refine ej_pl (lt_w (by kernel_rfl) (lt_y (y_nil rfl) rfl (lt_w (by kernel_rfl) (lt_w (by kernel_rfl) (lt_w (by kernel_rfl) (lt_w (by kernel_rfl) (lt_w (by kernel_rfl) (lt_w (by kernel_rfl) (lt_w (by kernel_rfl) (lt_w (by kernel_rfl) (lt_w (by kernel_rfl) (lt_w (by kernel_rfl) (lt_w (by kernel_rfl) (lt_w (by kernel_rfl) (lt_w (by kernel_rfl) (lt_w (by kernel_rfl) (lt_w (by kernel_rfl) (lt_w (by kernel_rfl) (lt_nil))))))))))))))))))) ?_
            refine pl_end (by kernel_rfl) ?_
            refine ej_takes [ownB b (cellsB 56 [.slice s.Ar s.rooms.length s.cr, .slice s.Ag s.gates.length s.cg, .slice s.As s.staff.length s.cs, .slice Ab 32 cb, .slice A50 (h.ever ++ [c.bag]).length c50, .slice A58 (h.st.seals ++ [c.mark]).length c58, .slice An 32 cn]), ow 30 5 encBa Ab cb h.st.bags, ow 3 1 enInt A50 c50 (h.ever ++ [c.bag]), ow 3 1 enInt A58 c58 (h.st.seals ++ [c.mark]), ow 3 1 enInt An cn (h.since), ownB b6 (cellsB 30 (encBa ⟨c.to_, c.mark, c.suits, c.by_, c.with_⟩)), ownB b3 (cellsB 60 (encCa c))] ?_
            exact ej_ct ((A50, c50), A58, c58) trivial ⟨rfl, rfl, rfl, rfl, trivial⟩
          · refine oj_buildSlice (cs := [.int .i64 c.mark]) [.int .i64 0] Tryz.underlying24 Tryz.sizeOf3 Tryz.zeroValue3 rfl rfl (by kernel_rfl) (by kernel_rfl) rfl (fun b57 => ?_)
            refine oj_nil ?_
            refine ej_pl (lt_w (by kernel_rfl) (lt_y (y_fa fa60_6 rfl) rfl (lt_y (y_load1 Tryz.isAgg24 rfl rfl) rfl (lt_y (y_fa fa56_3 rfl) rfl (lt_y (y_nil rfl) rfl (lt_y (y_move rfl) rfl (lt_y (y_load1 Tryz.isAgg3 rfl rfl) rfl (lt_y (y_fa fa60_2 rfl) rfl (lt_y (y_load1 Tryz.isAgg24 rfl rfl) rfl (lt_y (y_fa fa56_2 rfl) rfl (lt_y (y_nil rfl) rfl (lt_y (y_move rfl) rfl (lt_y (y_move rfl) rfl (lt_y (y_move rfl) rfl (lt_nil))))))))))))))) ?_
            refine pl_w1 9 (by kernel_rfl) rfl rfl (pl_fire rfl rfl rfl (by kernel_rfl) ?_)
            refine oj_append  el24 (fun _ => rfl) enInt_one rfl rfl rfl (reads_lit [c.bag] (fun _ => rfl) rfl) (by unfold maxLen; simp only [List.length_append, List.length_cons, List.length_nil]; omega) (by simp only [List.length_append, List.length_cons, List.length_nil]; omega) rfl (fun A50 c50 => ?_)
            refine oj_nil ?_
            refine ej_pl (lt_y (y_load1 Tryz.isAgg3 rfl rfl) rfl (lt_y (y_fa fa60_6 rfl) rfl (lt_y (y_load1 Tryz.isAgg24 rfl rfl) rfl (lt_y (y_fa fa56_3 rfl) rfl (lt_y (y_nil rfl) rfl (lt_y (y_move rfl) rfl (lt_y (y_load1 Tryz.isAgg3 rfl rfl) rfl (lt_y (y_fa fa60_2 rfl) rfl (lt_w (by kernel_rfl) (lt_y (y_fa fa56_2 rfl) rfl (lt_y (y_nil rfl) rfl (lt_y (y_move rfl) rfl (lt_y (y_move rfl) rfl (lt_y (y_move rfl) rfl (lt_nil))))))))))))))) ?_
            refine pl_w1 17 (by kernel_rfl) rfl rfl (pl_fire rfl rfl rfl (by kernel_rfl) ?_)
            refine oj_append  el24 (fun _ => rfl) enInt_one rfl rfl rfl (reads_lit [c.mark] (fun _ => rfl) rfl) (by unfold maxLen; simp only [List.length_append, List.length_cons, List.length_nil]; omega) (by simp only [List.length_append, List.length_cons, List.length_nil]; omega) rfl (fun A58 c58 => ?_)
            refine oj_nil ?_
            refine ej_pl (lt_y (y_load1 Tryz.isAgg3 rfl rfl) rfl (lt_y (y_fa fa60_6 rfl) rfl (lt_w (by kernel_rfl) (lt_y (y_fa fa56_3 rfl) rfl (lt_y (y_nil rfl) rfl (lt_y (y_move rfl) rfl (lt_y (y_load1 Tryz.isAgg3 rfl rfl) rfl (lt_y (y_fa fa60_2 rfl) rfl (lt_y (y_load1 Tryz.isAgg24 rfl rfl) rfl (lt_y (y_fa fa56_2 rfl) rfl (lt_y (y_nil rfl) rfl (lt_y (y_move rfl) rfl (lt_y (y_move rfl) rfl (lt_y (y_move rfl) rfl (lt_nil))))))))))))))) ?_
            refine pl_y 18 rfl (y_nil rfl) rfl rfl rfl rfl (by kernel_rfl) ?_
            refine pl_y 19 rfl (y_fa fa56_2 rfl) rfl rfl rfl rfl (by kernel_rfl) ?_
            refine pl_w1 20 (by kernel_rfl) rfl rfl (pl_fire rfl rfl rfl (by kernel_rfl) ?_)
            refine oj_store rfl rfl rfl rfl Tryz.sizeOf24 rfl ?_
            refine oj_nil ?_
            refine ej_pl (lt_w (by kernel_rfl) (lt_y (y_nil rfl) rfl (lt_y (y_load1 Tryz.isAgg3 rfl rfl) rfl (lt_y (y_fa fa60_6 rfl) rfl (lt_w (by kernel_rfl) (lt_y (y_fa fa56_3 rfl) rfl (lt_y (y_nil rfl) rfl (lt_y (y_move rfl) rfl (lt_w (by kernel_rfl) (lt_w (by kernel_rfl) (lt_w (by kernel_rfl) (lt_w (by kernel_rfl) (lt_w (by kernel_rfl) (lt_w (by kernel_rfl) (lt_y (y_move rfl) rfl (lt_w (by kernel_rfl) (lt_nil))))))))))))))))) ?_
            refine pl_y 21 rfl (y_nil rfl) rfl rfl rfl rfl (by kernel_rfl) ?_
            refine pl_y 22 rfl (y_fa fa56_3 rfl) rfl rfl rfl rfl (by kernel_rfl) ?_
            refine pl_w1 23 (by kernel_rfl) rfl rfl (pl_fire rfl rfl rfl (by kernel_rfl) ?_)
            refine oj_store rfl rfl rfl rfl Tryz.sizeOf24 rfl ?_
            refine oj_nil ?_
            refine ej_pl (lt_w (by kernel_rfl) (lt_y (y_nil rfl) rfl (lt_w (by kernel_rfl) (lt_w (by kernel_rfl) (lt_w (by kernel_rfl) (lt_w (by kernel_rfl) (lt_w (by kernel_rfl) (lt_w (by kernel_rfl) (lt_w (by kernel_rfl) (lt_w (by kernel_rfl) (lt_w (by kernel_rfl) (lt_w (by kernel_rfl) (lt_w (by kernel_rfl) (lt_w (by kernel_rfl) (lt_w (by kernel_rfl) (lt_w (by kernel_rfl) (lt_w (by kernel_rfl) (lt_w (by kernel_rfl) (lt_nil))))))))))))))))))) ?_
            refine pl_end (by kernel_rfl) ?_
            refine ej_takes [ownB b (cellsB 56 [.slice s.Ar s.rooms.length s.cr, .slice s.Ag s.gates.length s.cg, .slice s.As s.staff.length s.cs, .slice Ab 32 cb, .slice A50 (h.ever ++ [c.bag]).length c50, .slice A58 (h.st.seals ++ [c.mark]).length c58, .slice An 32 cn]), ow 30 5 encBa Ab cb h.st.bags, ow 3 1 enInt A50 c50 (h.ever ++ [c.bag]), ow 3 1 enInt A58 c58 (h.st.seals ++ [c.mark]), ow 3 1 enInt An cn (h.since), ownB b6 (cellsB 30 (encBa ⟨c.to_, c.mark, c.suits, c.by_, c.with_⟩)), ownB b3 (cellsB 60 (encCa c))] ?_
            exact ej_ct ((A50, c50), A58, c58) trivial ⟨rfl, rfl, rfl, rfl, trivial⟩
        · refine oj_buildSlice (cs := [.int .i64 c.mark]) [.int .i64 0] Tryz.underlying24 Tryz.sizeOf3 Tryz.zeroValue3 rfl rfl (by kernel_rfl) (by kernel_rfl) rfl (fun b57 => ?_)
          refine oj_nil ?_
          refine ej_pl (lt_w (by kernel_rfl) (lt_y (y_fa fa60_6 rfl) rfl (lt_y (y_load1 Tryz.isAgg24 rfl rfl) rfl (lt_y (y_fa fa56_3 rfl) rfl (lt_y (y_nil rfl) rfl (lt_y (y_move rfl) rfl (lt_y (y_load1 Tryz.isAgg3 rfl rfl) rfl (lt_y (y_fa fa60_2 rfl) rfl (lt_y (y_load1 Tryz.isAgg24 rfl rfl) rfl (lt_y (y_fa fa56_2 rfl) rfl (lt_y (y_nil rfl) rfl (lt_y (y_move rfl) rfl (lt_y (y_move rfl) rfl (lt_y (y_move rfl) rfl (lt_nil))))))))))))))) ?_
          refine pl_w1 8 (by kernel_rfl) rfl rfl (pl_fire rfl rfl rfl (by kernel_rfl) ?_)
          refine oj_buildSlice (cs := [.int .i64 c.bag]) [.int .i64 0] Tryz.underlying24 Tryz.sizeOf3 Tryz.zeroValue3 rfl rfl (by kernel_rfl) (by kernel_rfl) rfl (fun b49 => ?_)
          refine oj_nil ?_
          refine ej_pl (lt_y (y_load1 Tryz.isAgg3 rfl rfl) rfl (lt_y (y_fa fa60_6 rfl) rfl (lt_y (y_load1 Tryz.isAgg24 rfl rfl) rfl (lt_y (y_fa fa56_3 rfl) rfl (lt_y (y_nil rfl) rfl (lt_y (y_move rfl) rfl (lt_w (by kernel_rfl) (lt_y (y_fa fa60_2 rfl) rfl (lt_y (y_load1 Tryz.isAgg24 rfl rfl) rfl (lt_y (y_fa fa56_2 rfl) rfl (lt_y (y_nil rfl) rfl (lt_y (y_move rfl) rfl (lt_y (y_move rfl) rfl (lt_y (y_move rfl) rfl (lt_nil))))))))))))))) ?_
          refine pl_w1 9 (by kernel_rfl) rfl rfl (pl_fire rfl rfl rfl (by kernel_rfl) ?_)
          refine oj_append  el24 (fun _ => rfl) enInt_one rfl rfl rfl (reads_lit [c.bag] (fun _ => rfl) rfl) (by unfold maxLen; simp only [List.length_append, List.length_cons, List.length_nil]; omega) (by simp only [List.length_append, List.length_cons, List.length_nil]; omega) rfl (fun A50 c50 => ?_)
          refine oj_nil ?_
          refine ej_pl (lt_y (y_load1 Tryz.isAgg3 rfl rfl) rfl (lt_y (y_fa fa60_6 rfl) rfl (lt_y (y_load1 Tryz.isAgg24 rfl rfl) rfl (lt_y (y_fa fa56_3 rfl) rfl (lt_y (y_nil rfl) rfl (lt_y (y_move rfl) rfl (lt_y (y_load1 Tryz.isAgg3 rfl rfl) rfl (lt_y (y_fa fa60_2 rfl) rfl (lt_w (by kernel_rfl) (lt_y (y_fa fa56_2 rfl) rfl (lt_y (y_nil rfl) rfl (lt_y (y_move rfl) rfl (lt_y (y_move rfl) rfl (lt_y (y_move rfl) rfl (lt_nil))))))))))))))) ?_
          refine pl_w1 17 (by kernel_rfl) rfl rfl (pl_fire rfl rfl rfl (by kernel_rfl) ?_)
          refine oj_append  el24 (fun _ => rfl) enInt_one rfl rfl rfl (reads_lit [c.mark] (fun _ => rfl) rfl) (by unfold maxLen; simp only [List.length_append, List.length_cons, List.length_nil]; omega) (by simp only [List.length_append, List.length_cons, List.length_nil]; omega) rfl (fun A58 c58 => ?_)
          refine oj_nil ?_
          refine ej_pl (lt_y (y_load1 Tryz.isAgg3 rfl rfl) rfl (lt_y (y_fa fa60_6 rfl) rfl (lt_w (by kernel_rfl) (lt_y (y_fa fa56_3 rfl) rfl (lt_y (y_nil rfl) rfl (lt_y (y_move rfl) rfl (lt_y (y_load1 Tryz.isAgg3 rfl rfl) rfl (lt_y (y_fa fa60_2 rfl) rfl (lt_y (y_load1 Tryz.isAgg24 rfl rfl) rfl (lt_y (y_fa fa56_2 rfl) rfl (lt_y (y_nil rfl) rfl (lt_y (y_move rfl) rfl (lt_y (y_move rfl) rfl (lt_y (y_move rfl) rfl (lt_nil))))))))))))))) ?_
          refine pl_y 18 rfl (y_nil rfl) rfl rfl rfl rfl (by kernel_rfl) ?_
          refine pl_y 19 rfl (y_fa fa56_2 rfl) rfl rfl rfl rfl (by kernel_rfl) ?_
          refine pl_w1 20 (by kernel_rfl) rfl rfl (pl_fire rfl rfl rfl (by kernel_rfl) ?_)
          refine oj_store rfl rfl rfl rfl Tryz.sizeOf24 rfl ?_
          refine oj_nil ?_
          refine ej_pl (lt_w (by kernel_rfl) (lt_y (y_nil rfl) rfl (lt_y (y_load1 Tryz.isAgg3 rfl rfl) rfl (lt_y (y_fa fa60_6 rfl) rfl (lt_w (by kernel_rfl) (lt_y (y_fa fa56_3 rfl) rfl (lt_y (y_nil rfl) rfl (lt_y (y_move rfl) rfl (lt_w (by kernel_rfl) (lt_w (by kernel_rfl) (lt_w (by kernel_rfl) (lt_w (by kernel_rfl) (lt_w (by kernel_rfl) (lt_w (by kernel_rfl) (lt_y (y_move rfl) rfl (lt_w (by kernel_rfl) (lt_nil))))))))))))))))) ?_
          refine pl_y 21 rfl (y_nil rfl) rfl rfl rfl rfl (by kernel_rfl) ?_
          refine pl_y 22 rfl (y_fa fa56_3 rfl) rfl rfl rfl rfl (by kernel_rfl) ?_
          refine pl_w1 23 (by kernel_rfl) rfl rfl (pl_fire rfl rfl rfl (by kernel_rfl) ?_)
          refine oj_store rfl rfl rfl rfl Tryz.sizeOf24 rfl ?_
          refine oj_nil ?_
          refine ej_pl (lt_w (by kernel_rfl) (lt_y (y_nil rfl) rfl (lt_w (by kernel_rfl) (lt_w (by kernel_rfl) (lt_w (by kernel_rfl) (lt_w (by kernel_rfl) (lt_w (by kernel_rfl) (lt_w (by kernel_rfl) (lt_w (by kernel_rfl) (lt_w (by kernel_rfl) (lt_w (by kernel_rfl) (lt_w (by kernel_rfl) (lt_w (by kernel_rfl) (lt_w (by kernel_rfl) (lt_w (by kernel_rfl) (lt_w (by kernel_rfl) (lt_w (by kernel_rfl) (lt_w (by kernel_rfl) (lt_nil))))))))))))))))))) ?_
          refine pl_end (by kernel_rfl) ?_
          refine ej_takes [ownB b (cellsB 56 [.slice s.Ar s.rooms.length s.cr, .slice s.Ag s.gates.length s.cg, .slice s.As s.staff.length s.cs, .slice Ab 32 cb, .slice A50 (h.ever ++ [c.bag]).length c50, .slice A58 (h.st.seals ++ [c.mark]).length c58, .slice An 32 cn]), ow 30 5 encBa Ab cb h.st.bags, ow 3 1 enInt A50 c50 (h.ever ++ [c.bag]), ow 3 1 enInt A58 c58 (h.st.seals ++ [c.mark]), ow 3 1 enInt An cn (h.since), ownB b6 (cellsB 30 (encBa ⟨c.to_, c.mark, c.suits, c.by_, c.with_⟩)), ownB b3 (cellsB 60 (encCa c))] ?_
          exact ej_ct ((A50, c50), A58, c58) trivial ⟨rfl, rfl, rfl, rfl, trivial⟩
      · rintro ⟨⟨Ae1, ce1⟩, As1, cs1⟩ -
        dsimp only [List.cons_append, List.nil_append]
        refine cj_plan 8 (by kernel_rfl) (by kernel_rfl) ?_
        refine pl_y 0 rfl (y_move rfl) rfl rfl rfl rfl (by kernel_rfl) ?_
        refine pl_y 1 rfl (y_fa fa60_2 rfl) rfl rfl rfl rfl (by kernel_rfl) ?_
        refine pl_y 2 rfl (y_load1 Tryz.isAgg3 rfl rfl) rfl rfl rfl rfl (by kernel_rfl) ?_
        refine pl_y 3 rfl (y_fa fa60_3 rfl) rfl rfl rfl rfl (by kernel_rfl) ?_
        refine pl_y 4 rfl (y_load1 Tryz.isAgg3 rfl rfl) rfl rfl rfl rfl (by kernel_rfl) ?_
        refine pl_y 5 rfl (y_shl1I rfl rfl (by have h9 := hto (.inl hk1); omega) (by have h9 := hto (.inl hk1); omega)) rfl rfl rfl rfl (by kernel_rfl) ?_
        refine pl_y 6 rfl (y_ixRm (m := 32) (xs := h.since) hsl.symm reads_owI Tryz.underlying24 Tryz.sizeOf3 rfl rfl ⟨by omega, by omega⟩) rfl rfl rfl rfl (by kernel_rfl) ?_
        refine pl_w1 7 (by kernel_rfl) rfl rfl (pl_fire rfl rfl rfl (by kernel_rfl) ?_)
        refine oj_storeE (i := c.bag.toNat) (u := ((2 ^ c.to_.toNat : Nat) : Int)) rfl rfl rfl rfl Tryz.sizeOf3 (fun _ => rfl) (by first | omega | (simp only [List.length_set]; omega) | (simp; omega)) ?_
        refine oj_nil ?_
        refine ej_pl (lt_w (by kernel_rfl) (lt_w (by kernel_rfl) (lt_w (by kernel_rfl) (lt_w (by kernel_rfl) (lt_w (by kernel_rfl) (lt_w (by kernel_rfl) (lt_w (by kernel_rfl) (lt_nil)))))))) ?_
        refine pl_end (by kernel_rfl) ?_
        refine ej_blk ?_
        refine ej_takes [ownB b (cellsB 56 [.slice s.Ar s.rooms.length s.cr, .slice s.Ag s.gates.length s.cg, .slice s.As s.staff.length s.cs, .slice Ab 32 cb, .slice Ae1 (h.ever ++ [c.bag]).length ce1, .slice As1 (h.st.seals ++ [c.mark]).length cs1, .slice An 32 cn]), ow 30 5 encBa Ab cb h.st.bags, ow 3 1 enInt Ae1 ce1 (h.ever ++ [c.bag]), ow 3 1 enInt As1 cs1 (h.st.seals ++ [c.mark]), ow 3 1 enInt An cn (h.since.set c.bag.toNat ((2 ^ c.to_.toNat : Nat) : Int)), ownB b6 (cellsB 30 (encBa ⟨c.to_, c.mark, c.suits, c.by_, c.with_⟩)), ownB b3 (cellsB 60 (encCa c))] ?_
        refine ej_eqO [ownB b (cellsB 56 [.slice s.Ar s.rooms.length s.cr, .slice s.Ag s.gates.length s.cg, .slice s.As s.staff.length s.cs, .slice Ab 32 cb, .slice Ae1 (evN h.ever c).length ce1, .slice As1 ((stepN h.st c).seals).length cs1, .slice An 32 cn]), ow 30 5 encBa Ab cb h.st.bags, ow 3 1 enInt Ae1 ce1 (evN h.ever c), ow 3 1 enInt As1 cs1 ((stepN h.st c).seals), ow 3 1 enInt An cn (sinN h.since h.st c), ownB b6 (cellsB 30 (encBa (newBag (bagAt h.st c.bag) c))), ownB b3 (cellsB 60 (encCa c))] (by rw [hev, hse, hsi, hnb]) ?_
        exact ej_ct ((Ae1, ce1), As1, cs1) trivial ⟨rfl, rfl, rfl, trivial⟩
    · have h30b := h30
      try simp only [sxb] at h30
      have hn1 : ¬ c.kind = 1 := by simpa using h30
      have hev : evN h.ever c = h.ever := by rw [evN, if_neg hn1]
      refine cj_seq ?_
      refine cj_regionG (gj_step (y_eql rfl rfl) rfl rfl rfl (gj_step (y_assign rfl) rfl rfl rfl (gj_nil ?_)))
      refine ej_th ?_
      refine cj_cond rfl (fun h70 => ?_) (fun h70 => ?_)
      · have h70b := h70
        try simp only [sxb] at h70
        have hk2 : c.kind = 2 := by simpa using h70
        have hev : evN h.ever c = h.ever := by rw [evN, if_neg hn1]
        have hse : (stepN h.st c).seals = h.st.seals := by
          show (if c.kind = 1 ∨ c.kind = 4 then h.st.seals ++ [c.mark] else h.st.seals) = _
          rw [if_neg (by omega)]
        have hsi : sinN h.since h.st c = h.since.set c.bag.toNat (((h.since.getD c.bag.toNat 0).toNat ||| 2 ^ c.to_.toNat : Nat) : Int) := by
          unfold sinN
          rw [if_neg hn1, if_pos hk2]
        have hnb : newBag (bagAt h.st c.bag) c = ⟨c.to_, bx.mark, bx.suits, c.by_, c.with_⟩ := by
          unfold newBag
          rw [if_neg hn1, if_pos hk2, hbxe]
        refine cj_seq (cj_region ?_)
        refine oj_step (y_fa fa60_3 rfl) rfl rfl rfl ?_
        refine oj_step (y_load1 Tryz.isAgg3 rfl rfl) rfl rfl rfl ?_
        refine oj_step (y_fa0 fa30_0 rfl) rfl rfl rfl ?_
        refine oj_store rfl rfl rfl rfl Tryz.sizeOf3 rfl ?_
        refine oj_nil ?_
        refine ej_th ?_
        refine cj_plan 14 (by kernel_rfl) (by kernel_rfl) ?_
        refine pl_y 0 rfl (y_move rfl) rfl rfl rfl rfl (by kernel_rfl) ?_
        refine pl_y 1 rfl (y_fa fa60_2 rfl) rfl rfl rfl rfl (by kernel_rfl) ?_
        refine pl_y 2 rfl (y_load1 Tryz.isAgg3 rfl rfl) rfl rfl rfl rfl (by kernel_rfl) ?_
        refine pl_y 3 rfl (y_move rfl) rfl rfl rfl rfl (by kernel_rfl) ?_
        refine pl_y 4 rfl (y_fa fa60_2 rfl) rfl rfl rfl rfl (by kernel_rfl) ?_
        refine pl_y 5 rfl (y_load1 Tryz.isAgg3 rfl rfl) rfl rfl rfl rfl (by kernel_rfl) ?_
        refine pl_y 6 rfl (y_ixRm (m := 32) (xs := h.since) hsl.symm reads_owI Tryz.underlying24 Tryz.sizeOf3 rfl rfl ⟨by omega, by omega⟩) rfl rfl rfl rfl (by kernel_rfl) ?_
        refine pl_y 7 rfl (y_ld0 reads_owI Tryz.isAgg3 rfl hsa rfl) rfl rfl rfl rfl (by kernel_rfl) ?_
        refine pl_y 8 rfl (y_fa fa60_3 rfl) rfl rfl rfl rfl (by kernel_rfl) ?_
        refine pl_y 9 rfl (y_load1 Tryz.isAgg3 rfl rfl) rfl rfl rfl rfl (by kernel_rfl) ?_
        refine pl_y 10 rfl (y_shl1I rfl rfl (by have h9 := hto (.inr hk2); omega) (by have h9 := hto (.inr hk2); omega)) rfl rfl rfl rfl (by kernel_rfl) ?_
        refine pl_y 11 rfl (y_call Tryz.call71 rfl (fun w hp => k_withI (h.since.getD c.bag.toNat 0) ((2 ^ c.to_.toNat : Nat) : Int) w (by omega) ⟨Int.natCast_nonneg _, by have h9 := hto (.inr hk2); have h8 := pow_64 h9.2; exact Int.ofNat_lt.2 (Nat.lt_trans h8 (by decide))⟩)) rfl rfl rfl rfl (by kernel_rfl) ?_
        refine pl_y 12 rfl (y_ixRm (m := 32) (xs := h.since) hsl.symm reads_owI Tryz.underlying24 Tryz.sizeOf3 rfl rfl ⟨by omega, by omega⟩) rfl rfl rfl rfl (by kernel_rfl) ?_
        refine pl_w1 13 (by kernel_rfl) rfl rfl (pl_fire rfl rfl rfl (by kernel_rfl) ?_)
        refine oj_storeE (i := c.bag.toNat) (u := (((h.since.getD c.bag.toNat 0).toNat ||| 2 ^ c.to_.toNat : Nat) : Int)) rfl rfl rfl rfl Tryz.sizeOf3 (fun _ => rfl) (by first | omega | (simp only [List.length_set]; omega) | (simp; omega)) ?_
        refine oj_nil ?_
        refine ej_pl (lt_w (by kernel_rfl) (lt_w (by kernel_rfl) (lt_w (by kernel_rfl) (lt_w (by kernel_rfl) (lt_w (by kernel_rfl) (lt_w (by kernel_rfl) (lt_w (by kernel_rfl) (lt_w (by kernel_rfl) (lt_w (by kernel_rfl) (lt_w (by kernel_rfl) (lt_w (by kernel_rfl) (lt_w (by kernel_rfl) (lt_w (by kernel_rfl) (lt_nil)))))))))))))) ?_
        refine pl_end (by kernel_rfl) ?_
        refine ej_blk ?_
        refine ej_takes [ownB b (cellsB 56 [.slice s.Ar s.rooms.length s.cr, .slice s.Ag s.gates.length s.cg, .slice s.As s.staff.length s.cs, .slice Ab 32 cb, .slice Ae (h.ever).length ce, .slice As (h.st.seals).length cs, .slice An 32 cn]), ow 30 5 encBa Ab cb h.st.bags, ow 3 1 enInt Ae ce (h.ever), ow 3 1 enInt As cs (h.st.seals), ow 3 1 enInt An cn (h.since.set c.bag.toNat (((h.since.getD c.bag.toNat 0).toNat ||| 2 ^ c.to_.toNat : Nat) : Int)), ownB b6 (cellsB 30 (encBa ⟨c.to_, bx.mark, bx.suits, c.by_, c.with_⟩)), ownB b3 (cellsB 60 (encCa c))] ?_
        refine ej_eqO [ownB b (cellsB 56 [.slice s.Ar s.rooms.length s.cr, .slice s.Ag s.gates.length s.cg, .slice s.As s.staff.length s.cs, .slice Ab 32 cb, .slice Ae (evN h.ever c).length ce, .slice As ((stepN h.st c).seals).length cs, .slice An 32 cn]), ow 30 5 encBa Ab cb h.st.bags, ow 3 1 enInt Ae ce (evN h.ever c), ow 3 1 enInt As cs ((stepN h.st c).seals), ow 3 1 enInt An cn (sinN h.since h.st c), ownB b6 (cellsB 30 (encBa (newBag (bagAt h.st c.bag) c))), ownB b3 (cellsB 60 (encCa c))] (by rw [hev, hse, hsi, hnb]) ?_
        exact ej_ct ((Ae, ce), As, cs) trivial ⟨rfl, rfl, rfl, trivial⟩
      · have h70b := h70
        try simp only [sxb] at h70
        have hn2 : ¬ c.kind = 2 := by simpa using h70
        refine cj_seq ?_
        refine cj_regionG (gj_step (y_eql rfl rfl) rfl rfl rfl (gj_step (y_assign rfl) rfl rfl rfl (gj_nil ?_)))
        refine ej_th ?_
        refine cj_cond rfl (fun h88 => ?_) (fun h88 => ?_)
        · have h88b := h88
          try simp only [sxb] at h88
          have hk3 : c.kind = 3 := by simpa using h88
          have hev : evN h.ever c = h.ever := by rw [evN, if_neg hn1]
          have hse : (stepN h.st c).seals = h.st.seals := by
            show (if c.kind = 1 ∨ c.kind = 4 then h.st.seals ++ [c.mark] else h.st.seals) = _
            rw [if_neg (by omega)]
          have hsi : sinN h.since h.st c = h.since.set c.bag.toNat ((2 ^ bx.room.toNat : Nat) : Int) := by
            unfold sinN
            rw [if_neg hn1, if_neg hn2, if_pos (.inl hk3), hbxe]
          have hnb : newBag (bagAt h.st c.bag) c = ⟨bx.room, bx.mark, bx.suits, c.by_, c.with_⟩ := by
            unfold newBag
            rw [if_neg hn1, if_neg hn2, if_pos hk3, hbxe]
          refine cj_plan 8 (by kernel_rfl) (by kernel_rfl) ?_
          refine pl_y 0 rfl (y_move rfl) rfl rfl rfl rfl (by kernel_rfl) ?_
          refine pl_y 1 rfl (y_fa fa60_2 rfl) rfl rfl rfl rfl (by kernel_rfl) ?_
          refine pl_y 2 rfl (y_load1 Tryz.isAgg3 rfl rfl) rfl rfl rfl rfl (by kernel_rfl) ?_
          refine pl_y 3 rfl (y_fa0 fa30_0 rfl) rfl rfl rfl rfl (by kernel_rfl) ?_
          refine pl_y 4 rfl (y_load1 Tryz.isAgg3 rfl rfl) rfl rfl rfl rfl (by kernel_rfl) ?_
          refine pl_y 5 rfl (y_shl1I rfl rfl (by omega) (by omega)) rfl rfl rfl rfl (by kernel_rfl) ?_
          refine pl_y 6 rfl (y_ixRm (m := 32) (xs := h.since) hsl.symm reads_owI Tryz.underlying24 Tryz.sizeOf3 rfl rfl ⟨by omega, by omega⟩) rfl rfl rfl rfl (by kernel_rfl) ?_
          refine pl_w1 7 (by kernel_rfl) rfl rfl (pl_fire rfl rfl rfl (by kernel_rfl) ?_)
          refine oj_storeE (i := c.bag.toNat) (u := ((2 ^ bx.room.toNat : Nat) : Int)) rfl rfl rfl rfl Tryz.sizeOf3 (fun _ => rfl) (by first | omega | (simp only [List.length_set]; omega) | (simp; omega)) ?_
          refine oj_nil ?_
          refine ej_pl (lt_w (by kernel_rfl) (lt_w (by kernel_rfl) (lt_w (by kernel_rfl) (lt_w (by kernel_rfl) (lt_w (by kernel_rfl) (lt_w (by kernel_rfl) (lt_w (by kernel_rfl) (lt_nil)))))))) ?_
          refine pl_end (by kernel_rfl) ?_
          refine ej_blk ?_
          refine ej_takes [ownB b (cellsB 56 [.slice s.Ar s.rooms.length s.cr, .slice s.Ag s.gates.length s.cg, .slice s.As s.staff.length s.cs, .slice Ab 32 cb, .slice Ae (h.ever).length ce, .slice As (h.st.seals).length cs, .slice An 32 cn]), ow 30 5 encBa Ab cb h.st.bags, ow 3 1 enInt Ae ce (h.ever), ow 3 1 enInt As cs (h.st.seals), ow 3 1 enInt An cn (h.since.set c.bag.toNat ((2 ^ bx.room.toNat : Nat) : Int)), ownB b6 (cellsB 30 (encBa ⟨bx.room, bx.mark, bx.suits, c.by_, c.with_⟩)), ownB b3 (cellsB 60 (encCa c))] ?_
          refine ej_eqO [ownB b (cellsB 56 [.slice s.Ar s.rooms.length s.cr, .slice s.Ag s.gates.length s.cg, .slice s.As s.staff.length s.cs, .slice Ab 32 cb, .slice Ae (evN h.ever c).length ce, .slice As ((stepN h.st c).seals).length cs, .slice An 32 cn]), ow 30 5 encBa Ab cb h.st.bags, ow 3 1 enInt Ae ce (evN h.ever c), ow 3 1 enInt As cs ((stepN h.st c).seals), ow 3 1 enInt An cn (sinN h.since h.st c), ownB b6 (cellsB 30 (encBa (newBag (bagAt h.st c.bag) c))), ownB b3 (cellsB 60 (encCa c))] (by rw [hev, hse, hsi, hnb]) ?_
          exact ej_ct ((Ae, ce), As, cs) trivial ⟨rfl, rfl, rfl, trivial⟩
        · have h88b := h88
          try simp only [sxb] at h88
          have hn3 : ¬ c.kind = 3 := by simpa using h88
          refine cj_seq ?_
          refine cj_regionG (gj_step (y_eql rfl rfl) rfl rfl rfl (gj_step (y_assign rfl) rfl rfl rfl (gj_nil ?_)))
          refine ej_th ?_
          refine cj_cond rfl (fun h97 => ?_) (fun h97 => ?_)
          · have h97b := h97
            try simp only [sxb] at h97
            have hk4 : c.kind = 4 := by simpa using h97
            have hev : evN h.ever c = h.ever := by rw [evN, if_neg hn1]
            have hse : (stepN h.st c).seals = h.st.seals ++ [c.mark] := by
              show (if c.kind = 1 ∨ c.kind = 4 then h.st.seals ++ [c.mark] else h.st.seals) = _
              rw [if_pos (.inr hk4)]
            have hsi : sinN h.since h.st c = h.since.set c.bag.toNat ((2 ^ bx.room.toNat : Nat) : Int) := by
              unfold sinN
              rw [if_neg hn1, if_neg hn2, if_pos (.inr hk4), hbxe]
            have hnb : newBag (bagAt h.st c.bag) c = ⟨bx.room, c.mark, bx.suits, c.by_, c.with_⟩ := by
              unfold newBag
              rw [if_neg hn1, if_neg hn2, if_neg hn3, if_pos hk4, hbxe]
            refine cj_seq (cj_region ?_)
            refine oj_step (y_fa fa60_6 rfl) rfl rfl rfl ?_
            refine oj_step (y_load1 Tryz.isAgg3 rfl rfl) rfl rfl rfl ?_
            refine oj_step (y_fa fa30_1 rfl) rfl rfl rfl ?_
            refine oj_store rfl rfl rfl rfl Tryz.sizeOf3 rfl ?_
            refine oj_nil ?_
            refine ej_th (cj_seq ?_)
            refine cj_plan 12 (by kernel_rfl) (by kernel_rfl) ?_
            refine pl_y 0 rfl (y_move rfl) rfl rfl rfl rfl (by kernel_rfl) ?_
            refine pl_y 1 rfl (y_move rfl) rfl rfl rfl rfl (by kernel_rfl) ?_
            refine pl_y 2 rfl (y_nil rfl) rfl rfl rfl rfl (by kernel_rfl) ?_
            refine pl_y 3 rfl (y_fa fa56_3 rfl) rfl rfl rfl rfl (by kernel_rfl) ?_
            refine pl_y 4 rfl (y_load1 Tryz.isAgg24 rfl rfl) rfl rfl rfl rfl (by kernel_rfl) ?_
            refine pl_y 5 rfl (y_fa fa60_6 rfl) rfl rfl rfl rfl (by kernel_rfl) ?_
            refine pl_y 6 rfl (y_load1 Tryz.isAgg3 rfl rfl) rfl rfl rfl rfl (by kernel_rfl) ?_
            refine pl_w1 7 (by kernel_rfl) rfl rfl (pl_fire rfl rfl rfl (by kernel_rfl) ?_)
            refine oj_buildSlice (cs := [.int .i64 c.mark]) [.int .i64 0] Tryz.underlying24 Tryz.sizeOf3 Tryz.zeroValue3 rfl rfl (by kernel_rfl) (by kernel_rfl) rfl (fun b109 => ?_)
            refine oj_nil ?_
            refine ej_pl (lt_w (by kernel_rfl) (lt_y (y_fa fa60_6 rfl) rfl (lt_y (y_load1 Tryz.isAgg24 rfl rfl) rfl (lt_y (y_fa fa56_3 rfl) rfl (lt_y (y_nil rfl) rfl (lt_y (y_move rfl) rfl (lt_y (y_move rfl) rfl (lt_nil)))))))) ?_
            refine pl_w1 8 (by kernel_rfl) rfl rfl (pl_fire rfl rfl rfl (by kernel_rfl) ?_)
            refine oj_append  el24 (fun _ => rfl) enInt_one rfl rfl rfl (reads_lit [c.mark] (fun _ => rfl) rfl) (by unfold maxLen; simp only [List.length_append, List.length_cons, List.length_nil]; omega) (by simp only [List.length_append, List.length_cons, List.length_nil]; omega) rfl (fun A110 c110 => ?_)
            refine oj_nil ?_
            refine ej_pl (lt_y (y_load1 Tryz.isAgg3 rfl rfl) rfl (lt_y (y_fa fa60_6 rfl) rfl (lt_w (by kernel_rfl) (lt_y (y_fa fa56_3 rfl) rfl (lt_y (y_nil rfl) rfl (lt_y (y_move rfl) rfl (lt_y (y_move rfl) rfl (lt_nil)))))))) ?_
            refine pl_y 9 rfl (y_nil rfl) rfl rfl rfl rfl (by kernel_rfl) ?_
            refine pl_y 10 rfl (y_fa fa56_3 rfl) rfl rfl rfl rfl (by kernel_rfl) ?_
            refine pl_w1 11 (by kernel_rfl) rfl rfl (pl_fire rfl rfl rfl (by kernel_rfl) ?_)
            refine oj_store rfl rfl rfl rfl Tryz.sizeOf24 rfl ?_
            refine oj_nil ?_
            refine ej_pl (lt_w (by kernel_rfl) (lt_y (y_nil rfl) rfl (lt_w (by kernel_rfl) (lt_w (by kernel_rfl) (lt_w (by kernel_rfl) (lt_w (by kernel_rfl) (lt_w (by kernel_rfl) (lt_w (by kernel_rfl) (lt_w (by kernel_rfl) (lt_nil)))))))))) ?_
            refine pl_end (by kernel_rfl) ?_
            refine ej_th ?_
            refine cj_plan 8 (by kernel_rfl) (by kernel_rfl) ?_
            refine pl_y 0 rfl (y_move rfl) rfl rfl rfl rfl (by kernel_rfl) ?_
            refine pl_y 1 rfl (y_fa fa60_2 rfl) rfl rfl rfl rfl (by kernel_rfl) ?_
            refine pl_y 2 rfl (y_load1 Tryz.isAgg3 rfl rfl) rfl rfl rfl rfl (by kernel_rfl) ?_
            refine pl_y 3 rfl (y_fa0 fa30_0 rfl) rfl rfl rfl rfl (by kernel_rfl) ?_
            refine pl_y 4 rfl (y_load1 Tryz.isAgg3 rfl rfl) rfl rfl rfl rfl (by kernel_rfl) ?_
            refine pl_y 5 rfl (y_shl1I rfl rfl (by omega) (by omega)) rfl rfl rfl rfl (by kernel_rfl) ?_
            refine pl_y 6 rfl (y_ixRm (m := 32) (xs := h.since) hsl.symm reads_owI Tryz.underlying24 Tryz.sizeOf3 rfl rfl ⟨by omega, by omega⟩) rfl rfl rfl rfl (by kernel_rfl) ?_
            refine pl_w1 7 (by kernel_rfl) rfl rfl (pl_fire rfl rfl rfl (by kernel_rfl) ?_)
            refine oj_storeE (i := c.bag.toNat) (u := ((2 ^ bx.room.toNat : Nat) : Int)) rfl rfl rfl rfl Tryz.sizeOf3 (fun _ => rfl) (by first | omega | (simp only [List.length_set]; omega) | (simp; omega)) ?_
            refine oj_nil ?_
            refine ej_pl (lt_w (by kernel_rfl) (lt_w (by kernel_rfl) (lt_w (by kernel_rfl) (lt_w (by kernel_rfl) (lt_w (by kernel_rfl) (lt_w (by kernel_rfl) (lt_w (by kernel_rfl) (lt_nil)))))))) ?_
            refine pl_end (by kernel_rfl) ?_
            refine ej_blk ?_
            refine ej_takes [ownB b (cellsB 56 [.slice s.Ar s.rooms.length s.cr, .slice s.Ag s.gates.length s.cg, .slice s.As s.staff.length s.cs, .slice Ab 32 cb, .slice Ae (h.ever).length ce, .slice A110 (h.st.seals ++ [c.mark]).length c110, .slice An 32 cn]), ow 30 5 encBa Ab cb h.st.bags, ow 3 1 enInt Ae ce (h.ever), ow 3 1 enInt A110 c110 (h.st.seals ++ [c.mark]), ow 3 1 enInt An cn (h.since.set c.bag.toNat ((2 ^ bx.room.toNat : Nat) : Int)), ownB b6 (cellsB 30 (encBa ⟨bx.room, c.mark, bx.suits, c.by_, c.with_⟩)), ownB b3 (cellsB 60 (encCa c))] ?_
            refine ej_eqO [ownB b (cellsB 56 [.slice s.Ar s.rooms.length s.cr, .slice s.Ag s.gates.length s.cg, .slice s.As s.staff.length s.cs, .slice Ab 32 cb, .slice Ae (evN h.ever c).length ce, .slice A110 ((stepN h.st c).seals).length c110, .slice An 32 cn]), ow 30 5 encBa Ab cb h.st.bags, ow 3 1 enInt Ae ce (evN h.ever c), ow 3 1 enInt A110 c110 ((stepN h.st c).seals), ow 3 1 enInt An cn (sinN h.since h.st c), ownB b6 (cellsB 30 (encBa (newBag (bagAt h.st c.bag) c))), ownB b3 (cellsB 60 (encCa c))] (by rw [hev, hse, hsi, hnb]) ?_
            exact ej_ct ((Ae, ce), A110, c110) trivial ⟨rfl, rfl, rfl, trivial⟩
          · have h97b := h97
            try simp only [sxb] at h97
            have hn4 : ¬ c.kind = 4 := by simpa using h97
            have hev : evN h.ever c = h.ever := by rw [evN, if_neg hn1]
            have hse : (stepN h.st c).seals = h.st.seals := by
              show (if c.kind = 1 ∨ c.kind = 4 then h.st.seals ++ [c.mark] else h.st.seals) = _
              rw [if_neg (by omega)]
            have hsi : sinN h.since h.st c = h.since := by
              unfold sinN
              rw [if_neg hn1, if_neg hn2, if_neg (by omega)]
            have hnb : newBag (bagAt h.st c.bag) c = ⟨0, 0, bx.suits, c.by_, c.with_⟩ := by
              unfold newBag
              rw [if_neg hn1, if_neg hn2, if_neg hn3, if_neg hn4, hbxe]
            refine cj_region ?_
            refine oj_step (y_fa0 fa30_0 rfl) rfl rfl rfl ?_
            refine oj_store rfl rfl rfl rfl Tryz.sizeOf3 rfl ?_
            refine oj_step (y_fa fa30_1 rfl) rfl rfl rfl ?_
            refine oj_store rfl rfl rfl rfl Tryz.sizeOf3 rfl ?_
            refine oj_nil ?_
            refine ej_blk ?_
            refine ej_takes [ownB b (cellsB 56 [.slice s.Ar s.rooms.length s.cr, .slice s.Ag s.gates.length s.cg, .slice s.As s.staff.length s.cs, .slice Ab 32 cb, .slice Ae (h.ever).length ce, .slice As (h.st.seals).length cs, .slice An 32 cn]), ow 30 5 encBa Ab cb h.st.bags, ow 3 1 enInt Ae ce (h.ever), ow 3 1 enInt As cs (h.st.seals), ow 3 1 enInt An cn (h.since), ownB b6 (cellsB 30 (encBa ⟨0, 0, bx.suits, c.by_, c.with_⟩)), ownB b3 (cellsB 60 (encCa c))] ?_
            refine ej_eqO [ownB b (cellsB 56 [.slice s.Ar s.rooms.length s.cr, .slice s.Ag s.gates.length s.cg, .slice s.As s.staff.length s.cs, .slice Ab 32 cb, .slice Ae (evN h.ever c).length ce, .slice As ((stepN h.st c).seals).length cs, .slice An 32 cn]), ow 30 5 encBa Ab cb h.st.bags, ow 3 1 enInt Ae ce (evN h.ever c), ow 3 1 enInt As cs ((stepN h.st c).seals), ow 3 1 enInt An cn (sinN h.since h.st c), ownB b6 (cellsB 30 (encBa (newBag (bagAt h.st c.bag) c))), ownB b3 (cellsB 60 (encCa c))] (by rw [hev, hse, hsi, hnb]) ?_
            exact ej_ct ((Ae, ce), As, cs) trivial ⟨rfl, rfl, rfl, trivial⟩
  · rintro ⟨⟨Ae2, ce2⟩, As2, cs2⟩ -
    dsimp only [List.cons_append, List.nil_append]
    refine cj_region ?_
    refine oj_step (y_move rfl) rfl rfl rfl ?_
    refine oj_step (y_fa fa60_2 rfl) rfl rfl rfl ?_
    refine oj_step (y_load1 Tryz.isAgg3 rfl rfl) rfl rfl rfl ?_
    refine oj_step (y_loadN Tryz.isAgg30 Tryz.sizeOf30 rfl) rfl rfl rfl ?_
    refine oj_step (y_ixRm (m := 32) (xs := h.st.bags) hl32.symm (reads_ow enBa_len) Tryz.underlying54 Tryz.sizeOf30 rfl rfl ⟨by omega, by omega⟩) rfl rfl rfl ?_
    refine oj_storeE (i := c.bag.toNat) (u := (newBag (bagAt h.st c.bag) c)) rfl rfl rfl rfl Tryz.sizeOf30 (fun _ => rfl) (by first | omega | (simp only [List.length_set]; omega) | (simp; omega)) ?_
    refine oj_nil ?_
    refine ej_takes [ownB b (cellsB 56 [.slice s.Ar s.rooms.length s.cr, .slice s.Ag s.gates.length s.cg, .slice s.As s.staff.length s.cs, .slice Ab 32 cb, .slice Ae2 (evN h.ever c).length ce2, .slice As2 (stepN h.st c).seals.length cs2, .slice An 32 cn]), ow 30 5 encBa Ab cb (h.st.bags.set c.bag.toNat (newBag (bagAt h.st c.bag) c)), ow 3 1 enInt Ae2 ce2 (evN h.ever c), ow 3 1 enInt As2 cs2 (stepN h.st c).seals, ow 3 1 enInt An cn (sinN h.since h.st c)] ?_
    refine ej_eqO [ownB b (cellsB 56 [.slice s.Ar s.rooms.length s.cr, .slice s.Ag s.gates.length s.cg, .slice s.As s.staff.length s.cs, .slice Ab 32 cb, .slice Ae2 (hstep h c).ever.length ce2, .slice As2 (hstep h c).st.seals.length cs2, .slice An 32 cn]), ow 30 5 encBa Ab cb (hstep h c).st.bags, ow 3 1 enInt Ae2 ce2 (hstep h c).ever, ow 3 1 enInt As2 cs2 (hstep h c).st.seals, ow 3 1 enInt An cn (hstep h c).since] rfl ?_
    exact ej_end0 rfl Tryz.results45 (fun w' hp => ⟨((Ae2, ce2), As2, cs2), rfl, hp.givT _⟩)

end Go.Proofs.YtomidcehahdmbaaGreat
namespace Go.Proofs.YtomidcehahdmbaaGreat
open Go.Sx Go.RowKit
set_option maxRecDepth 20000

end Go.Proofs.YtomidcehahdmbaaGreat
namespace Go.Proofs.YtomidcehahdmbaaGreat
open Go.Sx Go.RowKit Vm
set_option maxRecDepth 20000
set_option maxHeartbeats 3200000 in
theorem k_play (s : StrV) (l : List CarryV) (A : Option Addr) (cc : Nat) (day : Int) (w : World) (hs : StrRd w s) (hl : Rd w 8 encCa A l) : Calls Tryz.prog 16 #[.agg #[.slice s.Ar s.rooms.length s.cr, .slice s.Ag s.gates.length s.cg, .slice s.As s.staff.length s.cs], .slice A l.length cc, .int .i64 day] w (fun e w' => (dayE s.s l day ≠ 0 ∧ e = .returned (.tuple #[.pointer none, .int .i64 (dayAt s.s l day : Nat), .int .i64 (dayE s.s l day)]) ∧ Grow w w') ∨ (dayE s.s l day = 0 ∧ (∃ z : HA, e = .returned (.tuple #[.pointer (some ⟨z.b, 0, none⟩), .int .i64 (l.length : Nat), .int .i64 (0)]) ∧ Giv [] w w' [ownB z.b (cellsB 56 [.slice s.Ar s.rooms.length s.cr, .slice s.Ag s.gates.length s.cg, .slice s.As s.staff.length s.cs, .slice z.Ab 32 z.cb, .slice z.Ae (hrun l (uptoN l day)).ever.length z.ce, .slice z.As (hrun l (uptoN l day)).st.seals.length z.cs, .slice z.An 32 z.cn]), ow 30 5 encBa z.Ab z.cb (hrun l (uptoN l day)).st.bags, ow 3 1 enInt z.Ae z.ce (hrun l (uptoN l day)).ever, ow 3 1 enInt z.As z.cs (hrun l (uptoN l day)).st.seals, ow 3 1 enInt z.An z.cn (hrun l (uptoN l day)).since]))) := by
  have hll := hl.len
  refine enterO (args := [.agg #[.slice s.Ar s.rooms.length s.cr, .slice s.Ag s.gates.length s.cg, .slice s.As s.staff.length s.cs], .slice A l.length cc, .int .i64 day]) [] [sl (fun b => b < w.heap.size) 3 encRo s.Ar s.rooms, sl (fun b => b < w.heap.size) 4 encGa s.Ag s.gates, sl (fun b => b < w.heap.size) 1 enInt s.As s.staff, sl (fun b => b < w.heap.size) 8 encCa A l] Tryz.func16 rfl (by rw [Tryz.ntmps16]; simp) (fun g hg => by cases hg) (.nil) (fun g hg => by simp at hg; rcases hg with rfl | rfl | rfl | rfl; exact ⟨hs.rooms, fun i h => ⟨h, fun f hf => by cases hf⟩⟩; exact ⟨hs.gates, fun i h => ⟨h, fun f hf => by cases hf⟩⟩; exact ⟨hs.staff, fun i h => ⟨h, fun f hf => by cases hf⟩⟩; exact ⟨hl, fun i h => ⟨h, fun f hf => by cases hf⟩⟩) ?_
  refine cj_seq (cj_region ?_)
  refine oj_box rfl rfl rfl (fun b3 => ?_)
  refine oj_step (y_assign rfl) rfl rfl rfl ?_
  refine oj_step (y_assign rfl) rfl rfl rfl ?_
  refine oj_step (y_assign rfl) rfl rfl rfl ?_
  refine oj_nil ?_
  refine ej_th (cj_seq (cj_seq ?_))
  refine cj_regionG ?_
  refine gj_step (y_loadN Tryz.isAgg26 Tryz.sizeOf26 rfl) rfl rfl rfl (?_)
  refine gj_step (y_call Tryz.call41 rfl (fun w hp => k_rCheck s w (hs.mono (hp.grow0 ⟨rfl, rfl, rfl, Nat.le_refl _, fun _ _ => rfl⟩ (fun b hb => ⟨hb, fun f hf => by cases hf⟩))))) rfl rfl rfl ?_
  refine gj_step (y_assign rfl) rfl rfl rfl (?_)
  refine gj_nil ?_
  refine ej_th (cj_seq ?_)
  refine cj_regionG (gj_step (y_move rfl) rfl rfl rfl (gj_step (y_neq rfl rfl) rfl rfl rfl (gj_nil ?_)))
  refine ej_th ?_
  refine cj_cond rfl (fun h16 => ?_) (fun h16 => ?_)
  · have h16b := h16
    try simp only [sxb] at h16
    obtain ⟨hnb, h40⟩ := strE_f h16
    refine cj_seq ?_
    refine cj_regionG (gj_step (y_move rfl) rfl rfl rfl (gj_step (y_assign rfl) rfl rfl rfl (gj_step (y_assign rfl) rfl rfl rfl (gj_step (y_assign rfl) rfl rfl rfl (gj_nil ?_)))))
    refine ej_th (cj_ret (ej_then_ret ?_))
    exact ej_ret3 rfl Tryz.results16 rfl rfl rfl (fun w' hp => .inl ⟨by rw [dayE, if_neg (by rw [hnb]; simp)]; decide, by rw [dayAt, if_neg (by rw [dayE, if_neg (by rw [hnb]; simp)]; decide), dayE, if_neg (by rw [hnb]; simp), if_neg (by rw [hnb]; simp), h40]; rfl, (hp.grow0 ⟨rfl, rfl, rfl, Nat.le_refl _, fun _ _ => rfl⟩ (fun b hb => ⟨hb, fun f hf => by cases hf⟩))⟩)
  · have h16b := h16
    try simp only [sxb] at h16
    have hb := strE_t (by simpa using h16)
    refine cj_skip (ej_th (cj_seq (cj_seq ?_)))
    refine cj_regionG ?_
    refine gj_step (y_loadN Tryz.isAgg26 Tryz.sizeOf26 rfl) rfl rfl rfl (gj_step (y_move rfl) rfl rfl rfl (?_))
    refine gj_step (y_call Tryz.call42 rfl (fun w hp => k_form s l A cc w (hs.mono (hp.grow0 ⟨rfl, rfl, rfl, Nat.le_refl _, fun _ _ => rfl⟩ (fun b hb => ⟨hb, fun f hf => by cases hf⟩))) hp.rd)) rfl rfl rfl ?_
    refine gj_step (y_not rfl) rfl rfl rfl (?_)
    refine gj_nil ?_
    refine ej_th ?_
    refine cj_cond rfl (fun h21 => ?_) (fun h21 => ?_)
    · have h21b := h21
      try simp only [sxb] at h21
      have hlb := not_t h21b
      refine cj_seq ?_
      refine cj_regionG (gj_step (y_assign rfl) rfl rfl rfl (gj_step (y_assign rfl) rfl rfl rfl (gj_step (y_assign rfl) rfl rfl rfl (gj_nil ?_))))
      refine ej_th (cj_ret (ej_then_ret ?_))
      exact ej_ret3 rfl Tryz.results16 rfl rfl rfl (fun w' hp => .inl ⟨by rw [dayE, if_pos hb, if_neg (by rw [hlb]; simp)]; decide, by rw [dayAt, if_neg (by rw [dayE, if_pos hb, if_neg (by rw [hlb]; simp)]; decide), dayE, if_pos hb, if_pos hb, if_neg (by rw [hlb]; simp), if_neg (by rw [hlb]; simp)]; rfl, (hp.grow0 ⟨rfl, rfl, rfl, Nat.le_refl _, fun _ _ => rfl⟩ (fun b hb => ⟨hb, fun f hf => by cases hf⟩))⟩)
    · have h21b := h21
      try simp only [sxb] at h21
      have hlb := not_f h21b
      have hall := log_ok hlb
      have hll : l.length ≤ 64 := by
        have h9 := hlb
        unfold logB at h9
        rw [Bool.and_eq_true] at h9
        exact of_decide_eq_true h9.2
      have hul := upto_le l day
      refine cj_skip (ej_th (cj_seq (cj_region ?_)))
      refine oj_step (y_loadN Tryz.isAgg26 Tryz.sizeOf26 rfl) rfl rfl rfl ?_
      refine oj_callL (X := Nat × Nat × Nat) (fun z => .pointer (some ⟨z.1, 0, none⟩)) [] (fun z => [ownB z.1 (cellsB 56 [.slice s.Ar s.rooms.length s.cr, .slice s.Ag s.gates.length s.cg, .slice s.As s.staff.length s.cs, .slice (some ⟨z.2.1, 0, none⟩) 32 32, .slice none hs0.ever.length 0, .slice none hs0.st.seals.length 0, .slice (some ⟨z.2.2, 0, none⟩) 32 32]), ow 30 5 encBa (some ⟨z.2.1, 0, none⟩) 32 hs0.st.bags, ow 3 1 enInt none 0 hs0.ever, ow 3 1 enInt none 0 hs0.st.seals, ow 3 1 enInt (some ⟨z.2.2, 0, none⟩) 32 hs0.since]) Tryz.call43 rfl rfl (fun w1 hp => k_hall s w1) rfl (fun z => ?_)
      obtain ⟨zb, z4, z5⟩ := z
      dsimp only [List.cons_append, List.nil_append]
      refine oj_step (y_assign rfl) rfl rfl rfl ?_
      refine oj_nil ?_
      refine ej_th (cj_seq (cj_seq ?_))
      refine cj_regionG (gj_step (y_assign rfl) rfl rfl rfl (gj_nil ?_))
      refine ej_th (cj_block ?_)
      refine cj_eqO [ownB zb (cellsB 56 [.slice s.Ar s.rooms.length s.cr, .slice s.Ag s.gates.length s.cg, .slice s.As s.staff.length s.cs, .slice (some ⟨z4, 0, none⟩) 32 32, .slice none (hrun l 0).ever.length 0, .slice none (hrun l 0).st.seals.length 0, .slice (some ⟨z5, 0, none⟩) 32 32]), ow 30 5 encBa (some ⟨z4, 0, none⟩) 32 (hrun l 0).st.bags, ow 3 1 enInt none 0 (hrun l 0).ever, ow 3 1 enInt none 0 (hrun l 0).st.seals, ow 3 1 enInt (some ⟨z5, 0, none⟩) 32 (hrun l 0).since, ownB b3 (cellsB 26 [.slice s.Ar s.rooms.length s.cr, .slice s.Ag s.gates.length s.cg, .slice s.As s.staff.length s.cs])] rfl ?_
      refine cj_lpi (X := Nat × HA) [(1, _), (2, _)] (fun ⟨k, a⟩ => k ≤ (uptoN l day) ∧ run s.s log0 (l.take k) = ((hrun l k).st, k, 0) ∧ Hok s.s k (hrun l k)) (fun ⟨k, a⟩ => [(10, .pointer (some ⟨a.b, 0, none⟩)), (11, .int .i64 (k : Nat))]) (fun ⟨k, a⟩ => [ownB a.b (cellsB 56 [.slice s.Ar s.rooms.length s.cr, .slice s.Ag s.gates.length s.cg, .slice s.As s.staff.length s.cs, .slice a.Ab 32 a.cb, .slice a.Ae (hrun l k).ever.length a.ce, .slice a.As (hrun l k).st.seals.length a.cs, .slice a.An 32 a.cn]), ow 30 5 encBa a.Ab a.cb (hrun l k).st.bags, ow 3 1 enInt a.Ae a.ce (hrun l k).ever, ow 3 1 enInt a.As a.cs (hrun l k).st.seals, ow 3 1 enInt a.An a.cn (hrun l k).since, ownB b3 (cellsB 26 [.slice s.Ar s.rooms.length s.cr, .slice s.Ag s.gates.length s.cg, .slice s.As s.staff.length s.cs])]) (fun ⟨k, a⟩ => [sl (fun b => b < w.heap.size) 3 encRo s.Ar s.rooms, sl (fun b => b < w.heap.size) 4 encGa s.Ag s.gates, sl (fun b => b < w.heap.size) 1 enInt s.As s.staff, sl (fun b => b < w.heap.size) 8 encCa A l]) (fun ⟨k, a⟩ => l.length - k) (0, ⟨zb, some ⟨z4, 0, none⟩, 32, none, 0, none, 0, some ⟨z5, 0, none⟩, 32⟩) (⟨Nat.zero_le _, rfl, Hok.start hb⟩) ⟨rfl, rfl, rfl, rfl, trivial⟩ ?_
      rintro ⟨k, a⟩ ⟨hk, hrn, hok2⟩
      dsimp only [List.cons_append, List.nil_append]
      have hnx : k < l.length → l[k]? = some (l.getD k ⟨0, 0, 0, 0, 0, 0, 0, 0⟩) := fun h => by rw [List.getD_eq_getElem?_getD, List.getElem?_eq_getElem h]; rfl
      refine cj_seq (cj_seq ?_)
      refine cj_regionG (gj_step (y_move rfl) rfl rfl rfl (gj_step (y_move rfl) rfl rfl rfl (gj_step (y_lenA Tryz.underlying27 rfl) rfl rfl rfl (gj_step (y_lss rfl rfl) rfl rfl rfl (gj_step (y_move rfl) rfl rfl rfl (gj_g 7 28 35 rfl rfl rfl rfl (fun hg28 => gj_yes rfl rfl rfl (y_move rfl) rfl rfl (gj_yes rfl rfl rfl (y_move rfl) rfl rfl (gj_yes rfl rfl rfl (y_ixR (reads_sl) Tryz.underlying27 Tryz.sizeOf60 rfl rfl (⟨by omega, by have h9 := hg28; simp at h9; omega⟩)) rfl rfl (gj_yes rfl rfl rfl (y_faE fa60_0 rfl) rfl rfl (gj_yes rfl rfl rfl (y_ld1 (reads_sl) Tryz.isAgg3 rfl (hnx (by have h9 := hg28; simp at h9; omega)) rfl) rfl rfl (gj_yes rfl rfl rfl (y_move rfl) rfl rfl (gj_yes rfl rfl rfl (y_leq rfl rfl) rfl rfl (gj_nil rfl)))))))) (gj_step (y_and rfl rfl rfl) rfl rfl rfl (gj_nil ?_))))))))
      refine ej_th ?_
      refine cj_cond rfl (fun h36 => ?_) (fun h36 => ?_)
      · have h36b := h36
        try simp only [sxb] at h36
        have hkl : k < l.length := by have h9 := h36b; simp at h9; omega
        obtain ⟨c, hck⟩ : ∃ c, l[k]? = some c := ⟨_, List.getElem?_eq_getElem (by omega)⟩
        have hcd : c.day ≤ day := by
          have h9 := h36b
          rw [Bool.and_eq_true, decide_eq_true_iff, decide_eq_true_iff] at h9
          have h8 := h9.2
          rw [List.getD_eq_getElem?_getD, hck] at h8
          exact h8
        have hup := upto_next hk hck hcd
        have hco := hall c (List.mem_of_getElem? hck)
        have hl32 := hok2.inv.len
        have hel := hok2.el
        have hsel := hok2.sl
        refine cj_skip (ej_th (cj_seq (cj_block (cj_seq (cj_seq ?_)))))
        refine cj_regionG ?_
        refine gj_step (y_move rfl) rfl rfl rfl (gj_step (y_move rfl) rfl rfl rfl (gj_step (y_move rfl) rfl rfl rfl (gj_step (y_ixR (reads_sl) Tryz.underlying27 Tryz.sizeOf60 rfl rfl (⟨by omega, by omega⟩)) rfl rfl rfl (gj_step (y_ldW (reads_sl) Tryz.isAgg60 Tryz.sizeOf60 rfl (hck) (fun _ => rfl)) rfl rfl rfl (?_)))))
        refine gj_step (y_call Tryz.call44 rfl (fun w hp => k_refused s (hrun l k) k c a.b a.Ab a.cb a.Ae a.ce a.As a.cs a.An a.cn w (hs.mono (hp.grow0 ⟨rfl, rfl, rfl, Nat.le_refl _, fun _ _ => rfl⟩ (fun b hb => ⟨hb, fun f hf => by cases hf⟩))) hok2 hco hb hp.own1 (hp.rdO enBa_len (by unfold maxLen; omega)) (hp.rdO (fun _ => rfl) (by unfold maxLen; omega)) (hp.rdO (fun _ => rfl) (by unfold maxLen; omega)))) rfl rfl rfl ?_
        refine gj_step (y_assign rfl) rfl rfl rfl (?_)
        refine gj_nil ?_
        refine ej_th (cj_seq ?_)
        refine cj_regionG (gj_step (y_move rfl) rfl rfl rfl (gj_step (y_neq rfl rfl) rfl rfl rfl (gj_nil ?_)))
        refine ej_th ?_
        refine cj_cond rfl (fun h46 => ?_) (fun h46 => ?_)
        · have h46b := h46
          try simp only [sxb] at h46
          have hrb := run_bad (l := l.take (uptoN l day)) (k := k) (by rw [List.take_take, Nat.min_eq_left (by omega)]; exact hrn) (by rw [List.getElem?_take, if_pos (by omega)]; exact hck) h46
          have hE : dayE s.s l day = stepE s.s (hrun l k).st c := by rw [dayE, if_pos hb, if_pos hlb, hrb]
          have hA : dayAt s.s l day = k := by rw [dayAt, if_neg (by rw [hE]; exact h46), if_pos hb, if_pos hlb, hrb]
          refine cj_seq ?_
          refine cj_regionG (gj_step (y_move rfl) rfl rfl rfl (gj_step (y_move rfl) rfl rfl rfl (gj_step (y_assign rfl) rfl rfl rfl (gj_step (y_assign rfl) rfl rfl rfl (gj_step (y_assign rfl) rfl rfl rfl (gj_nil ?_))))))
          refine ej_th (cj_ret (ej_then_ret (ej_blk_ret (ej_then_ret (ej_then_ret (ej_blk_ret (ej_then_ret ?_)))))))
          exact ej_ret3 rfl Tryz.results16 rfl rfl rfl (fun w' hp => .inl ⟨by rw [hE]; exact h46, by rw [hE, hA], (hp.grow0 ⟨rfl, rfl, rfl, Nat.le_refl _, fun _ _ => rfl⟩ (fun b hb => ⟨hb, fun f hf => by cases hf⟩))⟩)
        · have h46b := h46
          try simp only [sxb] at h46
          have he : stepE s.s (hrun l k).st c = 0 := by simpa using h46
          refine cj_skip (ej_th (cj_region ?_))
          refine oj_step (y_move rfl) rfl rfl rfl ?_
          refine oj_step (y_move rfl) rfl rfl rfl ?_
          refine oj_step (y_move rfl) rfl rfl rfl ?_
          refine oj_step (y_ixR (reads_sl) Tryz.underlying27 Tryz.sizeOf60 rfl rfl (⟨by omega, by omega⟩)) rfl rfl rfl ?_
          refine oj_step (y_ldW (reads_sl) Tryz.isAgg60 Tryz.sizeOf60 rfl (hck) (fun _ => rfl)) rfl rfl rfl ?_
          refine oj_callL (X := (Option Addr × Nat) × Option Addr × Nat) (fun _ => .tuple #[]) [ownB a.b (cellsB 56 [.slice s.Ar s.rooms.length s.cr, .slice s.Ag s.gates.length s.cg, .slice s.As s.staff.length s.cs, .slice a.Ab 32 a.cb, .slice a.Ae (hrun l k).ever.length a.ce, .slice a.As (hrun l k).st.seals.length a.cs, .slice a.An 32 a.cn]), ow 30 5 encBa a.Ab a.cb (hrun l k).st.bags, ow 3 1 enInt a.Ae a.ce (hrun l k).ever, ow 3 1 enInt a.As a.cs (hrun l k).st.seals, ow 3 1 enInt a.An a.cn (hrun l k).since] (fun z => [ownB a.b (cellsB 56 [.slice s.Ar s.rooms.length s.cr, .slice s.Ag s.gates.length s.cg, .slice s.As s.staff.length s.cs, .slice a.Ab 32 a.cb, .slice z.1.1 (hstep (hrun l k) c).ever.length z.1.2, .slice z.2.1 (hstep (hrun l k) c).st.seals.length z.2.2, .slice a.An 32 a.cn]), ow 30 5 encBa a.Ab a.cb (hstep (hrun l k) c).st.bags, ow 3 1 enInt z.1.1 z.1.2 (hstep (hrun l k) c).ever, ow 3 1 enInt z.2.1 z.2.2 (hstep (hrun l k) c).st.seals, ow 3 1 enInt a.An a.cn (hstep (hrun l k) c).since]) Tryz.call45 rfl rfl (fun w1 hp => by
            obtain ⟨q1, q2, q3⟩ := hp.ownL (Os := [ownB a.b (cellsB 56 [.slice s.Ar s.rooms.length s.cr, .slice s.Ag s.gates.length s.cg, .slice s.As s.staff.length s.cs, .slice a.Ab 32 a.cb, .slice a.Ae (hrun l k).ever.length a.ce, .slice a.As (hrun l k).st.seals.length a.cs, .slice a.An 32 a.cn]), ow 30 5 encBa a.Ab a.cb (hrun l k).st.bags, ow 3 1 enInt a.Ae a.ce (hrun l k).ever, ow 3 1 enInt a.As a.cs (hrun l k).st.seals, ow 3 1 enInt a.An a.cn (hrun l k).since]) inferInstance
            exact k_do s (hrun l k) k c a.b a.Ab a.cb a.Ae a.ce a.As a.cs a.An a.cn w1 hok2 (by omega) hco hb q1 q2) rfl (fun z => ?_)
          obtain ⟨⟨Ae2, ce2⟩, As2, cs2⟩ := z
          dsimp only [List.cons_append, List.nil_append]
          refine oj_nil ?_
          refine ej_blk (ej_th ?_)
          refine cj_regionG (gj_step (y_move rfl) rfl rfl rfl (gj_step (y_add rfl rfl (by omega)) rfl rfl rfl (gj_step (y_assign rfl) rfl rfl rfl (gj_nil ?_))))
          rw [← hrun_s hck]
          exact ej_nx (k + 1, ⟨a.b, a.Ab, a.cb, Ae2, ce2, As2, cs2, a.An, a.cn⟩) (by first | omega | (simp only; omega)) ⟨hup, by rw [hrun_s hck]; exact run_next hrn hck he, by rw [hrun_s hck]; exact hok2.step hb hco he⟩ ⟨rfl, rfl, rfl, rfl, trivial⟩
      · have h36b := h36
        try simp only [sxb] at h36
        have hue : uptoN l day = k := upto_end hk (by
          by_cases h9 : k < l.length
          · refine .inr ⟨_, hnx h9, ?_⟩
            have h8 := h36b
            rw [Bool.and_eq_false_iff, decide_eq_false_iff_not, decide_eq_false_iff_not] at h8
            rcases h8 with h8 | h8 <;> omega
          · exact .inl (by omega))
        have hE : dayE s.s l day = 0 := by rw [dayE, if_pos hb, if_pos hlb, hue, hrn]
        refine cj_exit (ej_then_exit (ej_then_exit (ej_blk_hit (ej_th (cj_seq ?_)))))
        refine cj_regionG (gj_step (y_move rfl) rfl rfl rfl (gj_step (y_move rfl) rfl rfl rfl (gj_step (y_lenA Tryz.underlying27 rfl) rfl rfl rfl (gj_step (y_assign rfl) rfl rfl rfl (gj_step (y_assign rfl) rfl rfl rfl (gj_step (y_assign rfl) rfl rfl rfl (gj_nil ?_)))))))
        refine ej_th (cj_ret ?_)
        refine ej_takes [ownB a.b (cellsB 56 [.slice s.Ar s.rooms.length s.cr, .slice s.Ag s.gates.length s.cg, .slice s.As s.staff.length s.cs, .slice a.Ab 32 a.cb, .slice a.Ae (hrun l k).ever.length a.ce, .slice a.As (hrun l k).st.seals.length a.cs, .slice a.An 32 a.cn]), ow 30 5 encBa a.Ab a.cb (hrun l k).st.bags, ow 3 1 enInt a.Ae a.ce (hrun l k).ever, ow 3 1 enInt a.As a.cs (hrun l k).st.seals, ow 3 1 enInt a.An a.cn (hrun l k).since] ?_
        exact ej_ret3 rfl Tryz.results16 rfl rfl rfl (fun w' hp => .inr ⟨hE, a, rfl, by rw [hue]; exact hp.givT _⟩)

theorem k_playB (s : StrV) (l : List CarryV) (A : Option Addr) (cc : Nat) (day : Int) (w : World) (hs : StrRd w s) (hl : Rd w 8 encCa A l) (h : dayE s.s l day ≠ 0) : Calls Tryz.prog 16 #[.agg #[.slice s.Ar s.rooms.length s.cr, .slice s.Ag s.gates.length s.cg, .slice s.As s.staff.length s.cs], .slice A l.length cc, .int .i64 day] w (fun e w' => e = .returned (.tuple #[.pointer none, .int .i64 (dayAt s.s l day : Nat), .int .i64 (dayE s.s l day)]) ∧ Grow w w') :=
  (k_play s l A cc day w hs hl).mono fun e w' hx => by
    rcases hx with hx | hx
    · exact hx.2
    · exact absurd hx.1 h
theorem k_playO (s : StrV) (l : List CarryV) (A : Option Addr) (cc : Nat) (day : Int) (w : World) (hs : StrRd w s) (hl : Rd w 8 encCa A l) (h : dayE s.s l day = 0) : Calls Tryz.prog 16 #[.agg #[.slice s.Ar s.rooms.length s.cr, .slice s.Ag s.gates.length s.cg, .slice s.As s.staff.length s.cs], .slice A l.length cc, .int .i64 day] w (fun e w' => (∃ z : HA, e = .returned (.tuple #[.pointer (some ⟨z.b, 0, none⟩), .int .i64 (l.length : Nat), .int .i64 (0)]) ∧ Giv [] w w' [ownB z.b (cellsB 56 [.slice s.Ar s.rooms.length s.cr, .slice s.Ag s.gates.length s.cg, .slice s.As s.staff.length s.cs, .slice z.Ab 32 z.cb, .slice z.Ae (hrun l (uptoN l day)).ever.length z.ce, .slice z.As (hrun l (uptoN l day)).st.seals.length z.cs, .slice z.An 32 z.cn]), ow 30 5 encBa z.Ab z.cb (hrun l (uptoN l day)).st.bags, ow 3 1 enInt z.Ae z.ce (hrun l (uptoN l day)).ever, ow 3 1 enInt z.As z.cs (hrun l (uptoN l day)).st.seals, ow 3 1 enInt z.An z.cn (hrun l (uptoN l day)).since])) :=
  (k_play s l A cc day w hs hl).mono fun e w' hx => by
    rcases hx with hx | hx
    · exact absurd h hx.1
    · exact hx.2

end Go.Proofs.YtomidcehahdmbaaGreat
namespace Go.Proofs.YtomidcehahdmbaaGreat
open Go.Sx Go.RowKit
set_option maxRecDepth 20000

end Go.Proofs.YtomidcehahdmbaaGreat
