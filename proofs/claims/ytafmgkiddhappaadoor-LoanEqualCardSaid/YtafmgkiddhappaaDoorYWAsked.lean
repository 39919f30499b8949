/- Walks of functions of the program. -/
import Derived.Test.YtafmgkiddhappaaDoorYWFits
import Derived.Test.YtafmgkiddhappaaDoorYTyAsked
namespace Go.Proofs.YtafmgkiddhappaaDoor
open Go.Sx Go.RowKit
set_option maxRecDepth 20000
theorem k_gram_bad (l : List ClassV) (A : Option Addr) (c : Nat) (w : World) (hl : Rd w 4 encCl A l) (hgc : ∀ c ∈ l, GoodC w c) (hok : gramOk l = false) : Calls Tryd.prog 94 #[.slice A l.length c] w (fun e w' => e = .returned (.tuple #[.map none, .int .i64 10]) ∧ Grow w w') :=
  (k_grammarOf l A c w hl hgc).mono fun e w' ⟨b, he, hg, _⟩ => ⟨by rw [he, gramE, hok]; rfl, hg⟩
theorem k_gram_ok (l : List ClassV) (A : Option Addr) (c : Nat) (w : World) (hl : Rd w 4 encCl A l) (hgc : ∀ c ∈ l, GoodC w c) (hok : gramOk l = true) : Calls Tryd.prog 94 #[.slice A l.length c] w (fun e w' => ∃ b, e = .returned (.tuple #[.map (some b), .int .i64 0]) ∧ Grow w w' ∧ (mp ekS evC b (gramM l)).P w' ∧ w.heap.size ≤ b ∧ b < w'.heap.size) :=
  (k_grammarOf l A c w hl hgc).mono fun e w' ⟨b, he, hg, h⟩ => ⟨b, by rw [he, gramE, hok]; rfl, hg, h hok⟩

theorem k_pasked_bad (l : List ClassV) (A : Option Addr) (c : Nat) (xs : List ItemV) (B : Option Addr) (d : Nat) (w : World) (hl : Rd w 4 encCl A l) (hgc : ∀ c ∈ l, GoodC w c) (hr : Rd w 3 encIt B xs) (hok : gramOk l = false) : Calls Tryd.prog 77 #[.slice A l.length c, .slice B xs.length d] w (fun e w' => ∃ b, e = .returned (.tuple #[.map (bif askIOk l xs then some b else none), .int .i64 (askIE l xs)]) ∧ Grow w w' ∧ (askIOk l xs = true → (mp ekS evC b (gramM l)).P w' ∧ w.heap.size ≤ b ∧ b < w'.heap.size)) := by
  refine enter_pure (args := [.slice A l.length c, .slice B xs.length d]) [sl (fun b => b < w.heap.size) 4 encCl A l, sl (fun b => b < w.heap.size) 3 encIt B xs] Tryd.func77 rfl (by rw [Tryd.ntmps77]; simp) (fun g hg => by simp at hg; rcases hg with rfl | rfl; exact ⟨hl, fun _ h => h⟩; exact ⟨hr, fun _ h => h⟩) ?_
  refine cj_seq ?_
  refine cj_regionG (gj_step (y_assign rfl) rfl rfl rfl (gj_step (y_assign rfl) rfl rfl rfl (gj_nil ?_)))
  refine ej_th (cj_seq ?_)
  refine cj_regionG ?_
  refine gj_step (y_move rfl) rfl rfl rfl (?_)
  refine gj_step (y_call Tryd.call94 rfl (fun w hp => k_gram_bad l A c w hp.rd (fun c hc => (hgc c hc).mono hp.below) hok)) rfl rfl rfl ?_
  refine gj_step (y_move rfl) rfl rfl rfl (gj_step (y_extract rfl rfl) rfl rfl rfl (gj_step (y_extract rfl rfl) rfl rfl rfl (gj_step (y_assign rfl) rfl rfl rfl (gj_step (y_assign rfl) rfl rfl rfl (?_)))))
  refine gj_nil ?_
  refine ej_th (cj_seq (cj_seq ?_))
  refine cj_regionG (gj_step (y_move rfl) rfl rfl rfl (gj_step (y_neq rfl rfl) rfl rfl rfl (gj_nil ?_)))
  refine ej_th ?_
  refine cj_cond rfl (fun h18 => ?_) (fun h18 => ?_)
  · have h18b := h18
    try simp only [sxb] at h18
    refine cj_seq ?_
    refine cj_regionG (gj_step (y_move rfl) rfl rfl rfl (gj_step (y_assign rfl) rfl rfl rfl (gj_step (y_assign rfl) rfl rfl rfl (gj_nil ?_))))
    refine ej_th (cj_ret (ej_then_ret ?_))
    have hg : askIOk l xs = false := by rw [askIOk, hok]; rfl
    exact ej_ret2 rfl Tryd.results77 rfl rfl (fun w' hp => ⟨0, by rw [hg, show askIE l xs = 10 from by simp [askIE, hok]]; rfl, hp.below, fun h => by rw [hg] at h; cases h⟩)
  · exact absurd h18 (by simp)

theorem k_pasked_ok (l : List ClassV) (A : Option Addr) (c : Nat) (xs : List ItemV) (B : Option Addr) (d : Nat) (w : World) (hl : Rd w 4 encCl A l) (hgc : ∀ c ∈ l, GoodC w c) (hr : Rd w 3 encIt B xs) (hxs : ∀ x ∈ xs, GoodI w x) (hok : gramOk l = true) : Calls Tryd.prog 77 #[.slice A l.length c, .slice B xs.length d] w (fun e w' => ∃ b, e = .returned (.tuple #[.map (bif askIOk l xs then some b else none), .int .i64 (askIE l xs)]) ∧ Grow w w' ∧ (askIOk l xs = true → (mp ekS evC b (gramM l)).P w' ∧ w.heap.size ≤ b ∧ b < w'.heap.size)) := by
  have hlen := hr.len
  refine enter_pure (args := [.slice A l.length c, .slice B xs.length d]) [sl (fun b => b < w.heap.size) 4 encCl A l, sl (fun b => b < w.heap.size) 3 encIt B xs] Tryd.func77 rfl (by rw [Tryd.ntmps77]; simp) (fun g hg => by simp at hg; rcases hg with rfl | rfl; exact ⟨hl, fun _ h => h⟩; exact ⟨hr, fun _ h => h⟩) ?_
  refine cj_seq ?_
  refine cj_regionG (gj_step (y_assign rfl) rfl rfl rfl (gj_step (y_assign rfl) rfl rfl rfl (gj_nil ?_)))
  refine ej_th (cj_seq (cj_region ?_))
  refine oj_step (y_move rfl) rfl rfl rfl ?_
  refine oj_call (X := {b : Nat // w.heap.size ≤ b}) (fun b => .tuple #[.map (some b.1), .int .i64 0]) (fun _ => []) (fun b => [mp ekS evC b.1 (gramM l)]) Tryd.call94 rfl (fun w hp => (k_gram_ok l A c w hp.rd (fun c hc => (hgc c hc).mono hp.below) hok).mono fun e w' ⟨b, he, hg, hm, h1, h2⟩ => ⟨⟨b, Nat.le_trans hp.size h1⟩, he, hg, by simp, by simp, fun g hg' => by simp only [List.mem_singleton] at hg'; subst hg'; exact ⟨hm, fun i hi => by have : i = b := hi; subst this; exact ⟨h1, h2, by simp⟩⟩⟩) rfl (fun b14 => ?_)
  obtain ⟨g14, hg14⟩ := b14
  dsimp only [List.cons_append, List.nil_append]
  refine oj_step (y_move rfl) rfl rfl rfl ?_
  refine oj_step (y_extract rfl rfl) rfl rfl rfl ?_
  refine oj_step (y_extract rfl rfl) rfl rfl rfl ?_
  refine oj_step (y_assign rfl) rfl rfl rfl ?_
  refine oj_step (y_assign rfl) rfl rfl rfl ?_
  refine oj_nil ?_
  refine ej_th (cj_seq (cj_seq ?_))
  refine cj_regionG (gj_step (y_move rfl) rfl rfl rfl (gj_step (y_neq rfl rfl) rfl rfl rfl (gj_nil ?_)))
  refine ej_th ?_
  refine cj_cond rfl (fun h18 => ?_) (fun h18 => ?_)
  · exact absurd h18 (by simp)
  · have h18b := h18
    try simp only [sxb] at h18
    refine cj_skip (ej_th (cj_seq (cj_seq ?_)))
    refine cj_regionG (gj_step (y_move rfl) rfl rfl rfl (gj_step (y_lenA Tryd.underlying101 rfl) rfl rfl rfl (gj_step (y_move rfl) rfl rfl rfl (gj_nil ?_))))
    refine ej_th (cj_block ?_)
    refine cj_lpic (X := Nat) [(6, _), (20, _), (21, _)] (fun k => k ≤ xs.length ∧ (xs.drop k).all (itemOk l) = xs.all (itemOk l)) (fun k => [(22, .int .i64 k)]) (fun k => xs.length - k) 0 (⟨Nat.zero_le _, rfl⟩) ⟨rfl, rfl, rfl, rfl, trivial⟩ ?_
    rintro k ⟨hk, hal⟩
    dsimp only [List.cons_append, List.nil_append]
    refine cj_seq ?_
    refine cj_regionG (gj_step (y_lss rfl rfl) rfl rfl rfl (gj_nil ?_))
    refine ej_th (cj_seq ?_)
    refine cj_cond rfl (fun h23 => ?_) (fun h23 => ?_)
    · have h23b := h23
      try simp only [sxb] at h23
      obtain ⟨x, hx⟩ : ∃ x, xs[k]? = some x := ⟨_, List.getElem?_eq_getElem (by omega)⟩
      rw [all_drop _ xs k x hx] at hal
      refine cj_skip (ej_th (cj_seq (cj_block (cj_seq (cj_region ?_)))))
      refine oj_step (y_ixR (reads_sl) Tryd.underlying101 Tryd.sizeOf103 rfl rfl (⟨by omega, by omega⟩)) rfl rfl rfl ?_
      refine oj_step (y_ldW (reads_sl) Tryd.isAgg103 Tryd.sizeOf103 rfl (hx) (fun _ => rfl)) rfl rfl rfl ?_
      refine oj_alloc Tryd.zeroValue103 rfl rfl (fun b9 => ?_)
      refine oj_store rfl rfl rfl rfl Tryd.sizeOf103 rfl ?_
      refine oj_nil ?_
      refine ej_th (cj_seq ?_)
      refine cj_regionG ?_
      refine gj_step (y_move rfl) rfl rfl rfl (gj_step (y_loadN Tryd.isAgg103 Tryd.sizeOf103 rfl) rfl rfl rfl (?_))
      refine gj_step (y_call Tryd.call95 rfl (fun w hp => (k_fitsA (hxs x (List.mem_of_getElem? hx)) w g14 (gramM l) 1 24 hp.below (hp.mpS (K := ByteArray) (V := ClassV)).1 (hp.mpS (K := ByteArray) (V := ClassV) (b := g14)).2 (fun p hm => (hgc _ (gramM_mem hm)).mono hp.below) ⟨by omega, by omega⟩ ⟨by omega, by omega⟩))) rfl rfl rfl ?_
      refine gj_step (y_move rfl) rfl rfl rfl (gj_step (y_extract rfl rfl) rfl rfl rfl (gj_step (y_extract rfl rfl) rfl rfl rfl (gj_step (y_assign rfl) rfl rfl rfl (gj_step (y_assign rfl) rfl rfl rfl (?_)))))
      refine gj_nil ?_
      refine ej_th (cj_seq ?_)
      refine cj_regionG (gj_step (y_move rfl) rfl rfl rfl (gj_step (y_not rfl) rfl rfl rfl (gj_nil ?_)))
      refine ej_th ?_
      refine cj_cond rfl (fun h33 => ?_) (fun h33 => ?_)
      · have h33b := h33
        try simp only [sxb] at h33
        have hio : itemOk l x = false := not_t h33b
        refine cj_seq ?_
        refine cj_regionG (gj_step (y_assign rfl) rfl rfl rfl (gj_step (y_assign rfl) rfl rfl rfl (gj_nil ?_)))
        refine ej_th (cj_ret (ej_blk_ret (ej_then_ret (ej_then_ret (ej_blk_ret (ej_then_ret ?_))))))
        have hg : askIOk l xs = false := by rw [askIOk, hok, ← hal, hio]; rfl
        exact ej_ret2 rfl Tryd.results77 rfl rfl (fun w' hp => ⟨0, by rw [hg, show askIE l xs = 11 from by simp [askIE, hok, ← hal, hio]]; rfl, hp.below, fun h => by rw [hg] at h; cases h⟩)
      · have h33b := h33
        try simp only [sxb] at h33
        have hio : itemOk l x = true := not_f h33b
        refine cj_skip (ej_blk (ej_th ?_))
        refine cj_regionG (gj_step (y_add rfl rfl (by omega)) rfl rfl rfl (gj_step (y_move rfl) rfl rfl rfl (gj_nil ?_)))
        exact ej_nx (k + 1) (by omega) ⟨by omega, by rw [← hal, hio, Bool.true_and]⟩ ⟨rfl, rfl, rfl, rfl, trivial⟩
    · have h23b := h23
      try simp only [sxb] at h23
      refine cj_exit (ej_then_exit (ej_then_exit (ej_blk_hit (ej_th (cj_seq ?_)))))
      refine cj_regionG (gj_step (y_move rfl) rfl rfl rfl (gj_step (y_assign rfl) rfl rfl rfl (gj_step (y_assign rfl) rfl rfl rfl (gj_nil ?_))))
      refine ej_th (cj_ret ?_)
      have ha : xs.all (itemOk l) = true := by rw [← hal, List.drop_of_length_le (by omega)]; rfl
      have hg : askIOk l xs = true := by rw [askIOk, hok, ha]; rfl
      exact ej_ret2 rfl Tryd.results77 rfl rfl (fun w' hp => ⟨g14, by rw [hg, show askIE l xs = 0 by simp [askIE, hok, ha]]; rfl, hp.below, fun _ => ⟨(hp.mpS (K := ByteArray) (V := ClassV)).1, hg14, (hp.mpS (K := ByteArray) (V := ClassV) (b := g14)).2⟩⟩)

theorem k_pasked (l : List ClassV) (A : Option Addr) (c : Nat) (xs : List ItemV) (B : Option Addr) (d : Nat) (w : World) (hl : Rd w 4 encCl A l) (hgc : ∀ c ∈ l, GoodC w c) (hr : Rd w 3 encIt B xs) (hxs : ∀ x ∈ xs, GoodI w x) : Calls Tryd.prog 77 #[.slice A l.length c, .slice B xs.length d] w (fun e w' => ∃ b, e = .returned (.tuple #[.map (bif askIOk l xs then some b else none), .int .i64 (askIE l xs)]) ∧ Grow w w' ∧ (askIOk l xs = true → (mp ekS evC b (gramM l)).P w' ∧ w.heap.size ≤ b ∧ b < w'.heap.size)) := by
  cases hok : gramOk l with
  | false => exact k_pasked_bad l A c xs B d w hl hgc hr hok
  | true => exact k_pasked_ok l A c xs B d w hl hgc hr hxs hok

end Go.Proofs.YtafmgkiddhappaaDoor
