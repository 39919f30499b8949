/- Texts of ours, joined: 32 of them. Conditions: none. -/
import Derived.Test.YtppfniekcgnmjaaGreatZe
import Derived.Test.YtppfniekcgnmjaaGreatProg
import Derived.Laws.StructEq
import Derived.Lib.Join
import Derived.Shelf.Strings.OnBuilder
namespace Go.Proofs.YtppfniekcgnmjaaGreat.To
open Go Go.Sx Go.RowKit
theorem eq_drop {α : Type} [DecidableEq α] (a b : List α) (k : Nat) (x y : α) (hx : a[k]? = some x) (hy : b[k]? = some y) : decide (a.drop k = b.drop k) = (decide (x = y) && decide (a.drop (k + 1) = b.drop (k + 1))) := by
  obtain ⟨h1, h2⟩ := List.getElem?_eq_some_iff.1 hx
  obtain ⟨h3, h4⟩ := List.getElem?_eq_some_iff.1 hy
  rw [List.drop_eq_getElem_cons h1, h2, List.drop_eq_getElem_cons h3, h4]
  by_cases h : x = y <;> by_cases h5 : a.drop (k + 1) = b.drop (k + 1) <;> simp [h, h5]
theorem eq_len {α : Type} [DecidableEq α] {a b : List α} (h : ¬ (a.length : Int) = b.length) : decide (a = b) = false := decide_eq_false (fun e => h (by rw [e]))
theorem len_of {a b : List Int} (h : ((a.length : Int) == (b.length : Int)) = true) : a.length = b.length := by
  have h2 : (a.length : Int) = b.length := by simpa using h
  omega
theorem same_start (a b : List Int) : (((a.length : Int) == (b.length : Int)) && decide (a.drop 0 = b.drop 0)) = decide (a = b) := by
  rw [List.drop_zero, List.drop_zero]
  by_cases h : (a.length : Int) = b.length
  · rw [show ((a.length : Int) == (b.length : Int)) = true by simpa using h]; rfl
  · rw [show ((a.length : Int) == (b.length : Int)) = false by simpa using h, eq_len h]; rfl
theorem beq_dec {x y : Int} {c : Bool} : ((x == y) && c) = (decide (x = y) && c) := by
  by_cases h : x = y <;> simp [h]
theorem Res.of_lit {α : Type} {w w' : World} {b sz : Nat} {enc : α → List Value} {xs : List α} (h : (litS b sz enc xs).P w' ∧ ∀ i, (litS b sz enc xs).fp i → w.heap.size ≤ i ∧ i < w'.heap.size ∧ ∀ o ∈ ([] : List Fact), ¬ o.fp i) : (sl (fun i => w.heap.size ≤ i ∧ i < w'.heap.size) sz enc (some ⟨b, 0, none⟩) xs).P w' :=
  sl_fp h.1 (fun i hi => ⟨(h.2 i hi).1, (h.2 i hi).2.1⟩)
def ringI (n m : Int) : Int := if m ≤ 0 then 0 else ((n.tmod m) + m).tmod m
theorem ringI_bd (n m : Int) (hm : 1 ≤ m) : 0 ≤ ringI n m ∧ ringI n m < m := by
  unfold ringI
  rw [if_neg (by omega)]
  have h1 : -m < n.tmod m ∧ n.tmod m < m := by
    rcases Int.lt_or_le n 0 with h | h
    · have h2 := Int.tmod_lt_of_pos (-n) (show (0 : Int) < m by omega)
      have h3 := Int.tmod_nonneg m (show 0 ≤ -n by omega)
      rw [Int.neg_tmod] at h2 h3
      omega
    · have h2 := Int.tmod_lt_of_pos n (show (0 : Int) < m by omega)
      have h3 := Int.tmod_nonneg m h
      omega
  exact ⟨Int.tmod_nonneg m (by omega), Int.tmod_lt_of_pos _ (by omega)⟩
def pickI (l : List Int) (i : Int) : Int := if l.length = 0 then 0 else l.getD (ringI i l.length).toNat default
theorem gd_of {α : Type} {l : List α} {i : Nat} {x : α} (d : α) (h : l[i]? = some x) : l.getD i d = x := by rw [List.getD_eq_getElem?_getD, h]; rfl
end Go.Proofs.YtppfniekcgnmjaaGreat.To
namespace Go.Proofs.YtppfniekcgnmjaaGreat.To
open Go Go.Sx Go.RowKit Um
theorem len_ofB {a b : List ByteArray} (h : ((a.length : Int) == (b.length : Int)) = true) : a.length = b.length := by
  have h2 : (a.length : Int) = b.length := by simpa using h
  omega
theorem same_startB (a b : List ByteArray) : (((a.length : Int) == (b.length : Int)) && decide (a.drop 0 = b.drop 0)) = decide (a = b) := by
  rw [List.drop_zero, List.drop_zero]
  by_cases h : (a.length : Int) = b.length
  · rw [show ((a.length : Int) == (b.length : Int)) = true by simpa using h]; rfl
  · rw [show ((a.length : Int) == (b.length : Int)) = false by simpa using h, eq_len h]; rfl
theorem beq_decB {x y : ByteArray} {c : Bool} : ((x == y) && c) = (decide (x = y) && c) := by
  rw [bytes_beq]
  by_cases h : x = y
  · simp [h]
  · rw [decide_eq_false h, decide_eq_false (fun e => h e.symm)]
end Go.Proofs.YtppfniekcgnmjaaGreat.To
namespace Go.Proofs.YtppfniekcgnmjaaGreat.To
open Go.Sx Go.RowKit
set_option maxRecDepth 20000

end Go.Proofs.YtppfniekcgnmjaaGreat.To
namespace Go.Proofs.YtppfniekcgnmjaaGreat.To
open Go.Sx Go.RowKit Um
set_option maxRecDepth 20000
theorem k_Same (a b : List Int) (Aa Ab : Option Addr) (ca cb : Nat) (w : World) (ha : Rd w 1 enInt Aa a) (hb : Rd w 1 enInt Ab b) : Calls Tryz.prog 31 #[.slice Aa a.length ca, .slice Ab b.length cb] w (fun e w' => e = .returned (.bool (decide (a = b))) ∧ Grow w w') := by
  have hla := ha.len
  have hlb := hb.len
  refine enter_pure (args := [.slice Aa a.length ca, .slice Ab b.length cb]) [sl (fun b => b < w.heap.size) 1 enInt Aa a, sl (fun b => b < w.heap.size) 1 enInt Ab b] Tryz.func31 rfl (by rw [Tryz.ntmps31]; simp) (fun g hg => by simp at hg; rcases hg with rfl | rfl; exact ⟨ha, fun _ h => h⟩; exact ⟨hb, fun _ h => h⟩) ?_
  refine cj_seq ?_
  refine cj_regionG (gj_step (y_assign rfl) rfl rfl rfl (gj_nil ?_))
  refine ej_th (cj_seq ?_)
  refine cj_regionG (gj_step (y_move rfl) rfl rfl rfl (gj_step (y_lenA Tryz.underlying23 rfl) rfl rfl rfl (gj_step (y_move rfl) rfl rfl rfl (gj_step (y_lenA Tryz.underlying23 rfl) rfl rfl rfl (gj_step (y_eql rfl rfl) rfl rfl rfl (gj_step (y_assign rfl) rfl rfl rfl (gj_nil ?_)))))))
  refine ej_th (cj_seq (cj_seq ?_))
  refine cj_regionG (gj_step (y_assign rfl) rfl rfl rfl (gj_nil ?_))
  refine ej_th (cj_block ?_)
  refine cj_lpic (X := Nat × Bool) [(0, _), (1, _), (4, _)] (fun ⟨k, ok⟩ => k ≤ a.length ∧ (ok = true → a.length = b.length) ∧ (ok && decide (a.drop k = b.drop k)) = decide (a = b)) (fun ⟨k, ok⟩ => [(5, .bool ok), (6, .int .i64 (k : Nat))]) (fun ⟨k, ok⟩ => a.length - k) (0, (a.length : Int) == (b.length : Int)) (⟨Nat.zero_le _, fun h => len_of h, same_start a b⟩) ⟨rfl, rfl, rfl, rfl, rfl, trivial⟩ ?_
  rintro ⟨k, ok⟩ ⟨hk, hle, hsk⟩
  dsimp only [List.cons_append, List.nil_append]
  refine cj_seq (cj_seq ?_)
  refine cj_regionG (gj_step (y_move rfl) rfl rfl rfl (gj_step (y_move rfl) rfl rfl rfl (gj_g 4 13 17 rfl rfl rfl rfl (fun hg13 => gj_yes rfl rfl rfl (y_move rfl) rfl rfl (gj_yes rfl rfl rfl (y_move rfl) rfl rfl (gj_yes rfl rfl rfl (y_lenA Tryz.underlying23 rfl) rfl rfl (gj_yes rfl rfl rfl (y_lss rfl rfl) rfl rfl (gj_nil rfl))))) (gj_step (y_and rfl rfl rfl) rfl rfl rfl (gj_nil ?_)))))
  refine ej_th ?_
  refine cj_cond rfl (fun h18 => ?_) (fun h18 => ?_)
  · have h18b := h18
    try simp only [sxb] at h18
    rw [Bool.and_eq_true, decide_eq_true_eq] at h18b
    have hok := h18b.1
    have hl2 := hle hok
    have hk2 := h18b.2
    obtain ⟨x, hx⟩ : ∃ x, a[k]? = some x := ⟨_, List.getElem?_eq_getElem (by omega)⟩
    obtain ⟨y, hy⟩ : ∃ y, b[k]? = some y := ⟨_, List.getElem?_eq_getElem (by omega)⟩
    rw [eq_drop a b k x y hx hy, hok, Bool.true_and] at hsk
    refine cj_skip (ej_th (cj_seq (cj_block ?_)))
    refine cj_draw (by kernel_rfl) (by kernel_rfl) (gj_step (y_move rfl) rfl rfl rfl (gj_step (y_move rfl) rfl rfl rfl (gj_step (y_ixR (reads_sl) Tryz.underlying23 Tryz.sizeOf3 rfl rfl (⟨by omega, by omega⟩)) rfl rfl rfl (gj_step (y_ld0 (reads_sl) Tryz.isAgg3 rfl (hx) rfl) rfl rfl rfl (gj_step (y_move rfl) rfl rfl rfl (gj_step (y_move rfl) rfl rfl rfl (gj_step (y_ixR (reads_sl) Tryz.underlying23 Tryz.sizeOf3 rfl rfl (⟨by omega, by omega⟩)) rfl rfl rfl (gj_step (y_ld0 (reads_sl) Tryz.isAgg3 rfl (hy) rfl) rfl rfl rfl (gj_step (y_eql rfl rfl) rfl rfl rfl (gj_step (y_assign rfl) rfl rfl rfl (gj_nil ?_)))))))))))
    refine ej_blk (ej_th ?_)
    refine cj_regionG (gj_step (y_move rfl) rfl rfl rfl (gj_step (y_add rfl rfl (by omega)) rfl rfl rfl (gj_step (y_assign rfl) rfl rfl rfl (gj_nil ?_))))
    exact ej_nx (k + 1, x == y) (by simp only; omega) ⟨by first | omega | (simp only; omega), fun _ => hle hok, by rw [← hsk, beq_dec]⟩ ⟨rfl, rfl, rfl, rfl, rfl, trivial⟩
  · have h18b := h18
    try simp only [sxb] at h18
    rw [Bool.and_eq_false_iff, decide_eq_false_iff_not] at h18b
    refine cj_exit (ej_then_exit (ej_then_exit (ej_blk_hit (ej_th (cj_seq ?_)))))
    refine cj_regionG (gj_step (y_move rfl) rfl rfl rfl (gj_step (y_assign rfl) rfl rfl rfl (gj_nil ?_)))
    refine ej_th (cj_ret ?_)
    refine ej_ret1 rfl Tryz.results31 rfl (fun w' hp => ⟨?_, hp.below⟩)
    rw [← hsk]
    cases hok : ok with
    | false => rfl
    | true =>
      have hl2 := hle hok
      have hk2 : a.length ≤ k := by rcases h18b with h | h; rw [hok] at h; cases h; omega
      rw [List.drop_of_length_le hk2, List.drop_of_length_le (show b.length ≤ k by omega)]; rfl

theorem k_SameTexts (a b : List ByteArray) (Aa Ab : Option Addr) (ca cb : Nat) (w : World) (ha : Rd w 1 enStr Aa a) (hb : Rd w 1 enStr Ab b) : Calls Tryz.prog 90 #[.slice Aa a.length ca, .slice Ab b.length cb] w (fun e w' => e = .returned (.bool (decide (a = b))) ∧ Grow w w') := by
  have hla := ha.len
  have hlb := hb.len
  refine enter_pure (args := [.slice Aa a.length ca, .slice Ab b.length cb]) [sl (fun b => b < w.heap.size) 1 enStr Aa a, sl (fun b => b < w.heap.size) 1 enStr Ab b] Tryz.func90 rfl (by rw [Tryz.ntmps90]; simp) (fun g hg => by simp at hg; rcases hg with rfl | rfl; exact ⟨ha, fun _ h => h⟩; exact ⟨hb, fun _ h => h⟩) ?_
  refine cj_seq ?_
  refine cj_regionG (gj_step (y_assign rfl) rfl rfl rfl (gj_nil ?_))
  refine ej_th (cj_seq ?_)
  refine cj_regionG (gj_step (y_move rfl) rfl rfl rfl (gj_step (y_lenA Tryz.underlying163 rfl) rfl rfl rfl (gj_step (y_move rfl) rfl rfl rfl (gj_step (y_lenA Tryz.underlying163 rfl) rfl rfl rfl (gj_step (y_eql rfl rfl) rfl rfl rfl (gj_step (y_assign rfl) rfl rfl rfl (gj_nil ?_)))))))
  refine ej_th (cj_seq (cj_seq ?_))
  refine cj_regionG (gj_step (y_assign rfl) rfl rfl rfl (gj_nil ?_))
  refine ej_th (cj_block ?_)
  refine cj_lpic (X := Nat × Bool) [(0, _), (1, _), (4, _)] (fun ⟨k, ok⟩ => k ≤ a.length ∧ (ok = true → a.length = b.length) ∧ (ok && decide (a.drop k = b.drop k)) = decide (a = b)) (fun ⟨k, ok⟩ => [(5, .bool ok), (6, .int .i64 (k : Nat))]) (fun ⟨k, ok⟩ => a.length - k) (0, (a.length : Int) == (b.length : Int)) (⟨Nat.zero_le _, fun h => len_ofB h, same_startB a b⟩) ⟨rfl, rfl, rfl, rfl, rfl, trivial⟩ ?_
  rintro ⟨k, ok⟩ ⟨hk, hle, hsk⟩
  dsimp only [List.cons_append, List.nil_append]
  refine cj_seq (cj_seq ?_)
  refine cj_regionG (gj_step (y_move rfl) rfl rfl rfl (gj_step (y_move rfl) rfl rfl rfl (gj_g 4 13 17 rfl rfl rfl rfl (fun hg13 => gj_yes rfl rfl rfl (y_move rfl) rfl rfl (gj_yes rfl rfl rfl (y_move rfl) rfl rfl (gj_yes rfl rfl rfl (y_lenA Tryz.underlying163 rfl) rfl rfl (gj_yes rfl rfl rfl (y_lss rfl rfl) rfl rfl (gj_nil rfl))))) (gj_step (y_and rfl rfl rfl) rfl rfl rfl (gj_nil ?_)))))
  refine ej_th ?_
  refine cj_cond rfl (fun h18 => ?_) (fun h18 => ?_)
  · have h18b := h18
    try simp only [sxb] at h18
    rw [Bool.and_eq_true, decide_eq_true_eq] at h18b
    have hok := h18b.1
    have hl2 := hle hok
    have hk2 := h18b.2
    obtain ⟨x, hx⟩ : ∃ x, a[k]? = some x := ⟨_, List.getElem?_eq_getElem (by omega)⟩
    obtain ⟨y, hy⟩ : ∃ y, b[k]? = some y := ⟨_, List.getElem?_eq_getElem (by omega)⟩
    rw [eq_drop a b k x y hx hy, hok, Bool.true_and] at hsk
    refine cj_skip (ej_th (cj_seq (cj_block ?_)))
    refine cj_draw (by kernel_rfl) (by kernel_rfl) (gj_step (y_move rfl) rfl rfl rfl (gj_step (y_move rfl) rfl rfl rfl (gj_step (y_ixR (reads_sl) Tryz.underlying163 Tryz.sizeOf9 rfl rfl (⟨by omega, by omega⟩)) rfl rfl rfl (gj_step (y_ld0 (reads_sl) Tryz.isAgg9 rfl (hx) rfl) rfl rfl rfl (gj_step (y_move rfl) rfl rfl rfl (gj_step (y_move rfl) rfl rfl rfl (gj_step (y_ixR (reads_sl) Tryz.underlying163 Tryz.sizeOf9 rfl rfl (⟨by omega, by omega⟩)) rfl rfl rfl (gj_step (y_ld0 (reads_sl) Tryz.isAgg9 rfl (hy) rfl) rfl rfl rfl (gj_step (y_eqlS rfl rfl) rfl rfl rfl (gj_step (y_assign rfl) rfl rfl rfl (gj_nil ?_)))))))))))
    refine ej_blk (ej_th ?_)
    refine cj_regionG (gj_step (y_move rfl) rfl rfl rfl (gj_step (y_add rfl rfl (by omega)) rfl rfl rfl (gj_step (y_assign rfl) rfl rfl rfl (gj_nil ?_))))
    exact ej_nx (k + 1, x == y) (by simp only; omega) ⟨by first | omega | (simp only; omega), fun _ => hle hok, by rw [← hsk, beq_decB]⟩ ⟨rfl, rfl, rfl, rfl, rfl, trivial⟩
  · have h18b := h18
    try simp only [sxb] at h18
    rw [Bool.and_eq_false_iff, decide_eq_false_iff_not] at h18b
    refine cj_exit (ej_then_exit (ej_then_exit (ej_blk_hit (ej_th (cj_seq ?_)))))
    refine cj_regionG (gj_step (y_move rfl) rfl rfl rfl (gj_step (y_assign rfl) rfl rfl rfl (gj_nil ?_)))
    refine ej_th (cj_ret ?_)
    refine ej_ret1 rfl Tryz.results90 rfl (fun w' hp => ⟨?_, hp.below⟩)
    rw [← hsk]
    cases hok : ok with
    | false => rfl
    | true =>
      have hl2 := hle hok
      have hk2 : a.length ≤ k := by rcases h18b with h | h; rw [hok] at h; cases h; omega
      rw [List.drop_of_length_le hk2, List.drop_of_length_le (show b.length ≤ k by omega)]; rfl

end Go.Proofs.YtppfniekcgnmjaaGreat.To
namespace Go.Proofs.YtppfniekcgnmjaaGreat.Pl
open Go.Sx Go.RowKit
set_option maxRecDepth 20000

end Go.Proofs.YtppfniekcgnmjaaGreat.Pl
namespace Go.Proofs.YtppfniekcgnmjaaGreat.Pl
open Go.Sx Go.RowKit
set_option maxRecDepth 20000

end Go.Proofs.YtppfniekcgnmjaaGreat.Pl
namespace Go.Proofs.YtppfniekcgnmjaaGreat.Pl
open Go.Sx Go.RowKit

theorem not_t {b : Bool} (h : (!b) = true) : b = false := by cases b <;> simp_all
theorem not_f {b : Bool} (h : (!b) = false) : b = true := by cases b <;> simp_all
/-- the first index of a number, or -1 -/
def seek : List Int → Int → Int → Int
  | [], _, _ => -1
  | x :: l, n, i => if x = n then i else seek l n (i + 1)
theorem seek_drop (l : List Int) (n : Int) (k : Nat) (x : Int) (h : l[k]? = some x) : seek (l.drop k) n k = if x = n then (k : Int) else seek (l.drop (k + 1)) n ((k + 1 : Nat) : Int) := by
  obtain ⟨h1, h2⟩ := List.getElem?_eq_some_iff.1 h
  rw [List.drop_eq_getElem_cons h1, h2, seek]; rfl
def btw (lo n hi : Int) : Bool := decide (lo ≤ n) && decide (n ≤ hi)
theorem all_drop {α : Type} (p : α → Bool) (l : List α) (k : Nat) (x : α) (h : l[k]? = some x) : (l.drop k).all p = (p x && (l.drop (k + 1)).all p) := by
  obtain ⟨h1, h2⟩ := List.getElem?_eq_some_iff.1 h
  rw [List.drop_eq_getElem_cons h1, h2, List.all_cons]
def letB (n : Int) : Bool := decide (97 ≤ n) && decide (n ≤ 122)
def okB (n : Int) : Bool := letB n || (decide (48 ≤ n) && decide (n ≤ 57)) || (n == 45)
abbrev bsOf (s : ByteArray) : List UInt8 := s.data.toList
def okBs (b : UInt8) : Bool := okB b.toNat
def isW (s : ByteArray) : Bool := decide (1 ≤ (s.size : Int)) && decide ((s.size : Int) ≤ 16) && letB ((bsOf s).getD 0 0).toNat && (bsOf s).all okBs
theorem bs_get {s : ByteArray} {k : Nat} {b : UInt8} (h : (bsOf s)[k]? = some b) : s[k]? = some b := by
  have h1 : k < s.size := by have := (List.getElem?_eq_some_iff.1 h).1; simpa using this
  rw [getElem?_pos s k h1]
  obtain ⟨h2, h3⟩ := List.getElem?_eq_some_iff.1 h
  rw [← h3]; rfl
theorem bs_len (s : ByteArray) : (bsOf s).length = s.size := by simp
theorem bs_first {s : ByteArray} (h : 1 ≤ s.size) : s[(0 : Int).toNat]? = some ((bsOf s).getD 0 0) := by
  refine bs_get ?_
  rw [List.getD_eq_getElem?_getD]
  have : 0 < (bsOf s).length := by rw [bs_len]; omega
  show (bsOf s)[0]? = _
  rw [List.getElem?_eq_getElem this]; rfl
theorem okB_V (n : Int) : (((decide (n < 97) || decide (122 < n)) && (decide (n < 48) || decide (57 < n))) && (n != 45)) = !(okB n) := by
  have e1 : decide (n < 97) = !(decide (97 ≤ n)) := by by_cases h : 97 ≤ n; (rw [decide_eq_true h, decide_eq_false (by omega)]; rfl); (rw [decide_eq_false h, decide_eq_true (by omega)]; rfl)
  have e2 : decide (122 < n) = !(decide (n ≤ 122)) := by by_cases h : n ≤ 122; (rw [decide_eq_true h, decide_eq_false (by omega)]; rfl); (rw [decide_eq_false h, decide_eq_true (by omega)]; rfl)
  have e3 : decide (n < 48) = !(decide (48 ≤ n)) := by by_cases h : 48 ≤ n; (rw [decide_eq_true h, decide_eq_false (by omega)]; rfl); (rw [decide_eq_false h, decide_eq_true (by omega)]; rfl)
  have e4 : decide (57 < n) = !(decide (n ≤ 57)) := by by_cases h : n ≤ 57; (rw [decide_eq_true h, decide_eq_false (by omega)]; rfl); (rw [decide_eq_false h, decide_eq_true (by omega)]; rfl)
  unfold okB letB
  rw [e1, e2, e3, e4]
  cases decide (97 ≤ n) <;> cases decide (n ≤ 122) <;> cases decide (48 ≤ n) <;> cases decide (n ≤ 57) <;> cases h : (n == 45) <;> simp [bne, h]
theorem okB_R (n : Int) (k : Nat) : ((!(decide (97 ≤ n) && decide (n ≤ 122))) && (((k : Int) == 0) || ((n != 45) && !(decide (48 ≤ n) && decide (n ≤ 57))))) = !(okB n && (letB n || !((k : Int) == 0))) := by
  unfold okB letB
  cases decide (97 ≤ n) <;> cases decide (n ≤ 122) <;> cases decide (48 ≤ n) <;> cases decide (n ≤ 57) <;> cases h : (n == 45) <;> cases ((k : Int) == 0) <;> simp [bne, h]

theorem bytes_eq {a b : ByteArray} (h : (a == b) = true) : a = b := by rw [bytes_beq] at h; exact (of_decide_eq_true h).symm
theorem bytes_ne {a b : ByteArray} (h : (a == b) = false) : ¬ a = b := by rw [bytes_beq] at h; exact fun e => of_decide_eq_false h e.symm
end Go.Proofs.YtppfniekcgnmjaaGreat.Pl
namespace Go.Proofs.YtppfniekcgnmjaaGreat.Pl
open Go.Sx Go.RowKit
set_option maxRecDepth 20000
theorem k_From (lo n hi : Int) (w : World)  : Calls Tryz.prog 11 #[.int .i64 lo, .int .i64 n, .int .i64 hi] w (fun e w' => e = .returned (.bool (decide (lo ≤ n) && decide (n ≤ hi))) ∧ Grow w w') := by
  refine enter_pure (args := [.int .i64 lo, .int .i64 n, .int .i64 hi]) [] Tryz.func11 rfl (by rw [Tryz.ntmps11]; simp) (by simp) ?_
  refine cj_seq ?_
  refine cj_regionG (gj_step (y_assign rfl) rfl rfl rfl (gj_nil ?_))
  refine ej_th (cj_seq ?_)
  refine cj_regionG (gj_step (y_move rfl) rfl rfl rfl (gj_step (y_move rfl) rfl rfl rfl (gj_step (y_leq rfl rfl) rfl rfl rfl (gj_step (y_move rfl) rfl rfl rfl (gj_g 3 10 13 rfl rfl rfl rfl (fun hg10 => gj_yes rfl rfl rfl (y_move rfl) rfl rfl (gj_yes rfl rfl rfl (y_move rfl) rfl rfl (gj_yes rfl rfl rfl (y_leq rfl rfl) rfl rfl (gj_nil rfl)))) (gj_step (y_and rfl rfl rfl) rfl rfl rfl (gj_step (y_assign rfl) rfl rfl rfl (gj_nil ?_))))))))
  refine ej_th (cj_ret ?_)
  exact ej_ret1 rfl Tryz.results11 rfl (fun w' hp => ⟨rfl, hp.below⟩)

end Go.Proofs.YtppfniekcgnmjaaGreat.Pl
namespace Go.Proofs.YtppfniekcgnmjaaGreat.Pl
open Go.Sx Go.RowKit
set_option maxRecDepth 20000
theorem k_IsWord (s : ByteArray) (w : World) (hs : s.size ≤ 9223372036854775807) : Calls Tryz.prog 22 #[.string s] w (fun e w' => e = .returned (.bool (isW s)) ∧ Grow w w') := by
  refine enter_pure (args := [.string s]) [] Tryz.func22 rfl (by rw [Tryz.ntmps22]; simp) (by simp) ?_
  refine cj_seq ?_
  refine cj_regionG (gj_step (y_assign rfl) rfl rfl rfl (gj_nil ?_))
  refine ej_th (cj_seq (cj_seq ?_))
  refine cj_regionG (gj_step (y_move rfl) rfl rfl rfl (gj_step (y_lenS Tryz.underlying9 rfl) rfl rfl rfl (gj_step (y_eql rfl rfl) rfl rfl rfl (gj_step (y_move rfl) rfl rfl rfl (gj_g 3 8 11 rfl rfl rfl rfl (fun hg8 => gj_yes rfl rfl rfl (y_move rfl) rfl rfl (gj_yes rfl rfl rfl (y_lenS Tryz.underlying9 rfl) rfl rfl (gj_yes rfl rfl rfl (y_gtr rfl rfl) rfl rfl (gj_nil rfl)))) (gj_step (y_or rfl rfl rfl) rfl rfl rfl (gj_step (y_move rfl) rfl rfl rfl (gj_g 3 13 16 rfl rfl rfl rfl (fun hg13 => gj_yes rfl rfl rfl (y_move rfl) rfl rfl (gj_yes rfl rfl rfl (y_indexS Tryz.underlying9 rfl rfl (by omega) (bs_first (by have := hg13; simp only [sxb] at this; omega))) rfl rfl (gj_yes rfl rfl rfl (y_lss rfl rfl) rfl rfl (gj_nil rfl)))) (gj_step (y_or rfl rfl rfl) rfl rfl rfl (gj_step (y_move rfl) rfl rfl rfl (gj_g 3 18 21 rfl rfl rfl rfl (fun hg18 => gj_yes rfl rfl rfl (y_move rfl) rfl rfl (gj_yes rfl rfl rfl (y_indexS Tryz.underlying9 rfl rfl (by omega) (bs_first (by have := hg18; simp only [sxb] at this; omega))) rfl rfl (gj_yes rfl rfl rfl (y_gtr rfl rfl) rfl rfl (gj_nil rfl)))) (gj_step (y_or rfl rfl rfl) rfl rfl rfl (gj_nil ?_)))))))))))))
  refine ej_th ?_
  refine cj_cond rfl (fun h22 => ?_) (fun h22 => ?_)
  · have h22b := h22
    try simp only [sxb] at h22
    refine cj_seq ?_
    refine cj_regionG (gj_step (y_assign rfl) rfl rfl rfl (gj_nil ?_))
    refine ej_th (cj_ret (ej_then_ret ?_))
    refine ej_ret1 rfl Tryz.results22 rfl (fun w' hp => ⟨?_, hp.below⟩)
    have : isW s = false := by
      unfold isW letB
      simp only [Bool.and_eq_false_iff, decide_eq_false_iff_not]
      omega
    rw [this]
  · have h22b := h22
    try simp only [sxb] at h22
    simp only [Bool.or_eq_false_iff, decide_eq_false_iff_not] at h22b
    refine cj_skip (ej_th (cj_seq (cj_seq ?_)))
    refine cj_regionG (gj_step (y_move rfl) rfl rfl rfl (gj_step (y_lenS Tryz.underlying9 rfl) rfl rfl rfl (gj_step (y_move rfl) rfl rfl rfl (gj_nil ?_))))
    refine ej_th (cj_block ?_)
    refine cj_lpic (X := Nat) [(0, _), (24, _)] (fun k => k ≤ s.size ∧ ((bsOf s).drop k).all okBs = (bsOf s).all okBs) (fun k => [(25, .int .i64 k)]) (fun k => s.size - k) 0 (⟨Nat.zero_le _, rfl⟩) ⟨rfl, rfl, rfl, trivial⟩ ?_
    rintro k ⟨hk, hl⟩
    dsimp only [List.cons_append, List.nil_append]
    refine cj_seq ?_
    refine cj_regionG (gj_step (y_lss rfl rfl) rfl rfl rfl (gj_nil ?_))
    refine ej_th (cj_seq ?_)
    refine cj_cond rfl (fun h26 => ?_) (fun h26 => ?_)
    · have h26b := h26
      try simp only [sxb] at h26
      have hbl := bs_len s
      obtain ⟨b, hx⟩ : ∃ b, (bsOf s)[k]? = some b := ⟨_, List.getElem?_eq_getElem (by omega)⟩
      rw [all_drop okBs (bsOf s) k b hx] at hl
      refine cj_skip (ej_th (cj_seq (cj_block (cj_seq ?_))))
      refine cj_regionG (gj_step (y_move rfl) rfl rfl rfl (gj_step (y_assign rfl) rfl rfl rfl (gj_nil ?_)))
      refine ej_th (cj_seq ?_)
      refine cj_regionG (gj_step (y_move rfl) rfl rfl rfl (gj_step (y_move rfl) rfl rfl rfl (gj_step (y_indexS Tryz.underlying9 rfl rfl (by omega) (bs_get hx)) rfl rfl rfl (gj_step (y_assign rfl) rfl rfl rfl (gj_nil ?_)))))
      refine ej_th (cj_seq ?_)
      refine cj_regionG (gj_step (y_move rfl) rfl rfl rfl (gj_step (y_lss rfl rfl) rfl rfl rfl (gj_step (y_move rfl) rfl rfl rfl (gj_g 2 33 35 rfl rfl rfl rfl (fun hg33 => gj_yes rfl rfl rfl (y_move rfl) rfl rfl (gj_yes rfl rfl rfl (y_gtr rfl rfl) rfl rfl (gj_nil rfl))) (gj_step (y_or rfl rfl rfl) rfl rfl rfl (gj_step (y_move rfl) rfl rfl rfl (gj_g 6 37 43 rfl rfl rfl rfl (fun hg37 => gj_yes rfl rfl rfl (y_move rfl) rfl rfl (gj_yes rfl rfl rfl (y_lss rfl rfl) rfl rfl (gj_yes rfl rfl rfl (y_move rfl) rfl rfl (gj_g 2 40 42 rfl rfl rfl rfl (fun hg40 => gj_yes rfl rfl rfl (y_move rfl) rfl rfl (gj_yes rfl rfl rfl (y_gtr rfl rfl) rfl rfl (gj_nil rfl))) (gj_yes rfl rfl rfl (y_or rfl rfl rfl) rfl rfl (gj_nil rfl)))))) (gj_step (y_and rfl rfl rfl) rfl rfl rfl (gj_step (y_move rfl) rfl rfl rfl (gj_g 2 45 47 rfl rfl rfl rfl (fun hg45 => gj_yes rfl rfl rfl (y_move rfl) rfl rfl (gj_yes rfl rfl rfl (y_neq rfl rfl) rfl rfl (gj_nil rfl))) (gj_step (y_and rfl rfl rfl) rfl rfl rfl (gj_nil ?_))))))))))))
      refine ej_th ?_
      refine cj_cond rfl (fun h48 => ?_) (fun h48 => ?_)
      · have h48b := h48
        try simp only [sxb] at h48
        refine cj_seq ?_
        refine cj_regionG (gj_step (y_assign rfl) rfl rfl rfl (gj_nil ?_))
        refine ej_th (cj_ret (ej_blk_ret (ej_then_ret (ej_then_ret (ej_blk_ret (ej_then_ret ?_))))))
        exact ej_ret1 rfl Tryz.results22 rfl (fun w' hp => ⟨by rw [isW, ← hl, show okBs b = false from not_t ((okB_V b.toNat).symm.trans h48b)]; simp, hp.below⟩)
      · have h48b := h48
        try simp only [sxb] at h48
        refine cj_skip (ej_blk (ej_th ?_))
        refine cj_regionG (gj_step (y_add rfl rfl (by omega)) rfl rfl rfl (gj_step (y_move rfl) rfl rfl rfl (gj_nil ?_)))
        refine ej_nx (k + 1) (by omega) ⟨by omega, ?_⟩ ⟨rfl, rfl, rfl, trivial⟩
        rw [← hl, show okBs b = true from not_f ((okB_V b.toNat).symm.trans h48b), Bool.true_and]
    · have h26b := h26
      try simp only [sxb] at h26
      refine cj_exit (ej_then_exit (ej_then_exit (ej_blk_hit (ej_th (cj_seq ?_)))))
      refine cj_regionG (gj_step (y_assign rfl) rfl rfl rfl (gj_nil ?_))
      refine ej_th (cj_ret ?_)
      refine ej_ret1 rfl Tryz.results22 rfl (fun w' hp => ⟨?_, hp.below⟩)
      have hbl := bs_len s
      rw [List.drop_of_length_le (by omega)] at hl
      rw [isW, ← hl, decide_eq_true (by omega), decide_eq_true (by omega)]
      unfold letB
      rw [decide_eq_true (by omega), decide_eq_true (by omega)]; rfl

end Go.Proofs.YtppfniekcgnmjaaGreat.Pl
namespace Go.Proofs.YtppfniekcgnmjaaGreat.Pl
open Go.Sx Go.RowKit

abbrev smS (l : List ByteArray) : Prop := ∀ s ∈ l, s.size ≤ 9223372036854775807
def hasW (l : List ByteArray) (s : ByteArray) : Bool := l.any (fun q => decide (q = s))
def wordsG : List ByteArray → List ByteArray → Bool
  | _, [] => true
  | pre, s :: l => (isW s && !(hasW pre s)) && wordsG (pre ++ [s]) l
def wordsB (l : List ByteArray) : Bool := wordsG [] l
theorem wordsG_drop (l : List ByteArray) (k : Nat) (s : ByteArray) (h : l[k]? = some s) : wordsG (l.take k) (l.drop k) = ((isW s && !(hasW (l.take k) s)) && wordsG (l.take (k + 1)) (l.drop (k + 1))) := by
  obtain ⟨h1, h2⟩ := List.getElem?_eq_some_iff.1 h
  rw [List.drop_eq_getElem_cons h1, h2, wordsG, List.take_add_one, h]; rfl
abbrev evB (b : Bool) : Value := .bool b
def mapW (l : List ByteArray) : List (ByteArray × Bool) := l.map (fun s => (s, true))
theorem getL_mapW (l : List ByteArray) (s : ByteArray) : (getL (mapW l) s).getD false = hasW l s := by
  induction l with
  | nil => rfl
  | cons q l ih =>
    show (if q = s then some true else getL (mapW l) s).getD false = (decide (q = s) || hasW l s)
    by_cases h : q = s
    · rw [if_pos h, decide_eq_true h]; rfl
    · rw [if_neg h, ih, decide_eq_false h]; rfl
theorem putL_newW (l : List ByteArray) (s : ByteArray) (h : hasW l s = false) : putL (mapW l) s true = mapW (l ++ [s]) := by
  induction l with
  | nil => rfl
  | cons q l ih =>
    simp only [hasW, List.any_cons, Bool.or_eq_false_iff, decide_eq_false_iff_not] at h
    show (if q = s then _ else _) = _
    rw [if_neg h.1]
    show (q, true) :: putL (mapW l) s true = _
    rw [ih h.2]; rfl
theorem words_V (pre : List ByteArray) (s : ByteArray) : (!(isW s) || hasW pre s) = !(isW s && !(hasW pre s)) := by
  cases isW s <;> cases hasW pre s <;> rfl
/-- where a text is in a list; -1: nowhere -/
def firstS (s : ByteArray) : List ByteArray → Nat → Int
  | [], _ => -1
  | q :: l, n => if q = s then n else firstS s l (n + 1)
theorem firstS_drop (s : ByteArray) (l : List ByteArray) (k : Nat) (q : ByteArray) (h : l[k]? = some q) : firstS s (l.drop k) k = if q = s then (k : Int) else firstS s (l.drop (k + 1)) (k + 1) := by
  obtain ⟨h1, h2⟩ := List.getElem?_eq_some_iff.1 h
  rw [List.drop_eq_getElem_cons h1, h2, firstS]
theorem firstS_has (s : ByteArray) (l : List ByteArray) (n : Nat) : decide (0 ≤ firstS s l n) = hasW l s := by
  induction l generalizing n with
  | nil => rfl
  | cons q l ih =>
    rw [firstS]
    show _ = (decide (q = s) || hasW l s)
    by_cases h : q = s
    · rw [if_pos h, decide_eq_true h, Bool.true_or]; exact decide_eq_true (by omega)
    · rw [if_neg h, ih, decide_eq_false h, Bool.false_or]
/-- where the first text is that does not lie in another list; -1: nowhere -/
def firstN (ns : List ByteArray) : List ByteArray → Nat → Int
  | [], _ => -1
  | q :: l, n => if hasW ns q = false then n else firstN ns l (n + 1)
theorem firstN_drop (ns l : List ByteArray) (k : Nat) (q : ByteArray) (h : l[k]? = some q) : firstN ns (l.drop k) k = if hasW ns q = false then (k : Int) else firstN ns (l.drop (k + 1)) (k + 1) := by
  obtain ⟨h1, h2⟩ := List.getElem?_eq_some_iff.1 h
  rw [List.drop_eq_getElem_cons h1, h2, firstN]
theorem firstN_all (ns l : List ByteArray) (n : Nat) : decide (0 ≤ firstN ns l n) = !(l.all (hasW ns)) := by
  induction l generalizing n with
  | nil => rfl
  | cons q l ih =>
    rw [firstN, List.all_cons]
    cases h : hasW ns q with
    | false => rw [if_pos rfl]; exact decide_eq_true (by omega)
    | true => rw [if_neg (by simp), ih, Bool.true_and]
end Go.Proofs.YtppfniekcgnmjaaGreat.Pl
namespace Go.Proofs.YtppfniekcgnmjaaGreat.Pl
open Go.Sx Go.RowKit

/-- a trait, and where its values lie -/
structure TraitV where
  name : ByteArray
  A : Option Addr
  c : Nat
  vals : List ByteArray
  must : Bool
instance : Inhabited TraitV := ⟨⟨⟨#[]⟩, none, 0, [], false⟩⟩
abbrev encTr (t : TraitV) : List Value := [.string t.name, .slice t.A t.vals.length t.c, .bool t.must]
structure GoodT (w : World) (t : TraitV) : Prop where
  rd : Rd w 1 enStr t.A t.vals
  sm : smS t.vals
  nm : t.name.size ≤ 9223372036854775807
theorem GoodT.mono {w w' : World} {t : TraitV} (h : GoodT w t) (hg : Grow w w') : GoodT w' t := ⟨h.rd.mono hg, h.sm, h.nm⟩
/-- a class, and where its traits and parts lie -/
structure ClassV where
  name : ByteArray
  At : Option Addr
  ct : Nat
  traits : List TraitV
  Ap : Option Addr
  cp : Nat
  parts : List ByteArray
  most : Int
abbrev zC : ClassV := ⟨⟨#[]⟩, none, 0, [], none, 0, [], 0⟩
instance : Inhabited ClassV := ⟨zC⟩
abbrev encCl (c : ClassV) : List Value := [.string c.name, .slice c.At c.traits.length c.ct, .slice c.Ap c.parts.length c.cp, .int .i64 c.most]
abbrev evC (c : ClassV) : Value := .agg #[.string c.name, .slice c.At c.traits.length c.ct, .slice c.Ap c.parts.length c.cp, .int .i64 c.most]
structure GoodC (w : World) (c : ClassV) : Prop where
  rt : Rd w 3 encTr c.At c.traits
  tr : ∀ t ∈ c.traits, GoodT w t
  rp : Rd w 1 enStr c.Ap c.parts
  sm : smS c.parts
  nm : c.name.size ≤ 9223372036854775807
theorem GoodC.mono {w w' : World} {c : ClassV} (h : GoodC w c) (hg : Grow w w') : GoodC w' c := ⟨h.rt.mono hg, fun t ht => (h.tr t ht).mono hg, h.rp.mono hg, h.sm, h.nm⟩
theorem GoodC.zero (w : World) : GoodC w zC := ⟨.nil, by simp, .nil, fun s hs => (by cases hs), by decide⟩
/-- an item, and where what is said of it and its parts lie -/
inductive ItemV where
  | mk (cls : ByteArray) (As : Option Addr) (cs : Nat) (says : List ByteArray) (Ap : Option Addr) (cp : Nat) (parts : List ItemV)
namespace ItemV
def cls : ItemV → ByteArray | mk c .. => c
def As : ItemV → Option Addr | mk _ a .. => a
def cs : ItemV → Nat | mk _ _ c .. => c
def says : ItemV → List ByteArray | mk _ _ _ s .. => s
def Ap : ItemV → Option Addr | mk _ _ _ _ a .. => a
def cp : ItemV → Nat | mk _ _ _ _ _ c _ => c
def parts : ItemV → List ItemV | mk _ _ _ _ _ _ p => p
end ItemV
instance : Inhabited ItemV := ⟨.mk ⟨#[]⟩ none 0 [] none 0 []⟩
abbrev encIt (x : ItemV) : List Value := [.string x.cls, .slice x.As x.says.length x.cs, .slice x.Ap x.parts.length x.cp]
abbrev evI (x : ItemV) : Value := .agg #[.string x.cls, .slice x.As x.says.length x.cs, .slice x.Ap x.parts.length x.cp]
inductive GoodI (w : World) : ItemV → Prop
  | mk {x : ItemV} (hs : Rd w 1 enStr x.As x.says) (hp : Rd w 3 encIt x.Ap x.parts) (hn : x.cls.size ≤ 9223372036854775807) (hm : smS x.says) (hr : ∀ p ∈ x.parts, GoodI w p) : GoodI w x
theorem GoodI.rs {w : World} {x : ItemV} (h : GoodI w x) : Rd w 1 enStr x.As x.says := by cases h; assumption
theorem GoodI.rp {w : World} {x : ItemV} (h : GoodI w x) : Rd w 3 encIt x.Ap x.parts := by cases h; assumption
theorem GoodI.sm {w : World} {x : ItemV} (h : GoodI w x) : smS x.says := by cases h; assumption
theorem GoodI.nm {w : World} {x : ItemV} (h : GoodI w x) : x.cls.size ≤ 9223372036854775807 := by cases h; assumption
theorem GoodI.pt {w : World} {x : ItemV} (h : GoodI w x) : ∀ p ∈ x.parts, GoodI w p := by cases h; assumption
theorem GoodI.mono {w w' : World} {x : ItemV} (h : GoodI w x) (hg : Grow w w') : GoodI w' x := by
  induction h with
  | mk hs hp hn hm _ ih => exact .mk (hs.mono hg) (hp.mono hg) hn hm ih

/-! ### What the program says of a grammar -/
def traitOk (t : TraitV) : Bool := !((!(decide (1 ≤ (t.vals.length : Int)) && decide ((t.vals.length : Int) ≤ 8))) || !(wordsB t.vals))
def class1 (c : ClassV) : Bool := !(((decide (8 < (c.traits.length : Int)) || !(decide (0 ≤ c.most) && decide (c.most ≤ 6))) || (((c.parts.length : Int) == 0) && (c.most != 0))) || !(wordsB c.parts))
def classOk (ns : List ByteArray) (c : ClassV) : Bool := class1 c && (c.parts.all (hasW ns) && (c.traits.all traitOk && wordsB (c.traits.map (·.name))))
theorem class1_tr {c : ClassV} (h : class1 c = true) : (c.traits.length : Int) ≤ 8 := by
  unfold class1 at h
  simp only [Bool.not_eq_true', Bool.or_eq_false_iff, decide_eq_false_iff_not] at h
  omega
def namesC (l : List ClassV) : List ByteArray := l.map (·.name)
def gramOk (l : List ClassV) : Bool := (decide (1 ≤ (l.length : Int)) && decide ((l.length : Int) ≤ 12)) && (wordsB (namesC l) && l.all (classOk (namesC l)))
def putAll : List (ByteArray × ClassV) → List ClassV → List (ByteArray × ClassV)
  | m, [] => m
  | m, c :: l => putAll (putL m c.name c) l
theorem putAll_add (m : List (ByteArray × ClassV)) (l : List ClassV) (c : ClassV) : putAll m (l ++ [c]) = putL (putAll m l) c.name c := by
  induction l generalizing m with
  | nil => rfl
  | cons d l ih => exact ih _
def gramM (l : List ClassV) : List (ByteArray × ClassV) := putAll [] l
def gramE (l : List ClassV) : Int := if gramOk l then 0 else 10

/-! ### What the program says of a description -/
def saysOne (t : TraitV) (s : ByteArray) : Bool := !(((s == ⟨#[]⟩) && t.must) || ((!(s == ⟨#[]⟩)) && !(hasW t.vals s)))
def saysOk : List TraitV → List ByteArray → Bool
  | t :: ts, s :: ss => saysOne t s && saysOk ts ss
  | _, _ => true
theorem saysOk_drop (ts : List TraitV) (ss : List ByteArray) (k : Nat) (t : TraitV) (s : ByteArray) (ht : ts[k]? = some t) (hs : ss[k]? = some s) : saysOk (ts.drop k) (ss.drop k) = (saysOne t s && saysOk (ts.drop (k + 1)) (ss.drop (k + 1))) := by
  obtain ⟨h1, h2⟩ := List.getElem?_eq_some_iff.1 ht
  obtain ⟨h3, h4⟩ := List.getElem?_eq_some_iff.1 hs
  rw [List.drop_eq_getElem_cons h1, h2, List.drop_eq_getElem_cons h3, h4, saysOk]
mutual
def fitsI (g : List (ByteArray × ClassV)) : ItemV → Int → Int → Option Int
  | .mk cls _ _ says _ _ parts, deep, most =>
    match getL g cls with
    | none => none
    | some c => if 3 < deep ∨ most < 1 ∨ says.length ≠ c.traits.length ∨ c.most < (parts.length : Int) then none else if saysOk c.traits says then fitsL g c.parts parts deep most 1 else none
def fitsL (g : List (ByteArray × ClassV)) (cp : List ByteArray) : List ItemV → Int → Int → Int → Option Int
  | [], _, _, many => some many
  | p :: l, deep, most, many => if hasW cp p.cls then (match fitsI g p (deep + 1) (most - many) with | none => none | some n => fitsL g cp l deep most (many + n)) else none
end
mutual
theorem fitsI_bd (g : List (ByteArray × ClassV)) : ∀ (x : ItemV) (deep most n : Int), fitsI g x deep most = some n → 1 ≤ n ∧ n ≤ most
  | .mk cls As cs says Ap cp parts, deep, most, n, h => by
    unfold fitsI at h
    split at h
    · cases h
    · split at h
      · cases h
      · split at h
        · exact fitsL_bd g _ parts deep most 1 n (by omega) (by omega) h
        · cases h
theorem fitsL_bd (g : List (ByteArray × ClassV)) (cp : List ByteArray) : ∀ (l : List ItemV) (deep most many n : Int), 1 ≤ many → many ≤ most → fitsL g cp l deep most many = some n → 1 ≤ n ∧ n ≤ most
  | [], deep, most, many, n, h1, h2, h => by
    unfold fitsL at h
    injection h with h
    omega
  | p :: l, deep, most, many, n, h1, h2, h => by
    unfold fitsL at h
    split at h
    · split at h
      · cases h
      · rename_i m hm
        have := fitsI_bd g p _ _ m hm
        exact fitsL_bd g cp l deep most (many + m) n (by omega) (by omega) h
    · cases h
end
def fitsT (o : Option ClassV) (ns np : Nat) (deep most : Int) : Bool := ((((!(o.isSome) || decide (3 < deep)) || decide (most < 1)) || ((ns : Int) != ((o.getD zC).traits.length : Int))) || decide ((o.getD zC).most < (np : Int)))
theorem fitsT_none {o : Option ClassV} {ns np : Nat} {deep most : Int} (h : fitsT o ns np deep most = true) : o = none ∨ ∃ c, o = some c ∧ (3 < deep ∨ most < 1 ∨ ns ≠ c.traits.length ∨ c.most < (np : Int)) := by
  cases o with
  | none => exact .inl rfl
  | some c =>
    refine .inr ⟨c, rfl, ?_⟩
    simp only [fitsT, Option.isSome_some, Option.getD_some, Bool.not_true, Bool.false_or, Bool.or_eq_true, decide_eq_true_eq, bne_iff_ne, ne_eq] at h
    omega
theorem fitsT_some {o : Option ClassV} {ns np : Nat} {deep most : Int} (h : fitsT o ns np deep most = false) : ∃ c, o = some c ∧ ¬ (3 < deep ∨ most < 1 ∨ ns ≠ c.traits.length ∨ c.most < (np : Int)) := by
  cases o with
  | none => simp [fitsT] at h
  | some c =>
    refine ⟨c, rfl, ?_⟩
    simp only [fitsT, Option.isSome_some, Option.getD_some, Bool.not_true, Bool.false_or, Bool.or_eq_false_iff, decide_eq_false_iff_not, bne_eq_false_iff_eq] at h
    omega
theorem fitsI_none {g : List (ByteArray × ClassV)} {x : ItemV} {deep most : Int} (h : fitsT (getL g x.cls) x.says.length x.parts.length deep most = true) : fitsI g x deep most = none := by
  have h1 := fitsT_none h
  obtain ⟨cls, As, cs, says, Ap, cp, parts⟩ := x
  unfold fitsI
  simp only [ItemV.cls, ItemV.says, ItemV.parts] at h1
  rcases h1 with h1 | ⟨c, h1, h2⟩
  · rw [h1]
  · rw [h1]; simp only; rw [if_pos h2]
theorem fitsI_some {g : List (ByteArray × ClassV)} {x : ItemV} {deep most : Int} (h : fitsT (getL g x.cls) x.says.length x.parts.length deep most = false) :
    ∃ c, getL g x.cls = some c ∧ deep ≤ 3 ∧ 1 ≤ most ∧ x.says.length = c.traits.length ∧ fitsI g x deep most = if saysOk c.traits x.says then fitsL g c.parts x.parts deep most 1 else none := by
  obtain ⟨c, h1, h2⟩ := fitsT_some h
  obtain ⟨cls, As, cs, says, Ap, cp, parts⟩ := x
  simp only [ItemV.cls, ItemV.says, ItemV.parts] at h1 h2 ⊢
  refine ⟨c, h1, by omega, by omega, by omega, ?_⟩
  unfold fitsI
  rw [h1]
  simp only
  rw [if_neg h2]
  rfl
theorem fitsL_drop (g : List (ByteArray × ClassV)) (cp : List ByteArray) (l : List ItemV) (k : Nat) (p : ItemV) (deep most many : Int) (h : l[k]? = some p) :
    fitsL g cp (l.drop k) deep most many = if hasW cp p.cls then (match fitsI g p (deep + 1) (most - many) with | none => none | some n => fitsL g cp (l.drop (k + 1)) deep most (many + n)) else none := by
  obtain ⟨h1, h2⟩ := List.getElem?_eq_some_iff.1 h
  rw [List.drop_eq_getElem_cons h1, h2, fitsL]
theorem getL_mem {g : List (ByteArray × ClassV)} {s : ByteArray} {c : ClassV} (h : getL g s = some c) : ∃ p ∈ g, p.2 = c := by
  induction g with
  | nil => cases h
  | cons p g ih =>
    rw [getL] at h
    split at h
    · injection h with h; exact ⟨p, by simp, h⟩
    · obtain ⟨q, hq, he⟩ := ih h; exact ⟨q, by simp [hq], he⟩
theorem putL_mem {m : List (ByteArray × ClassV)} {k : ByteArray} {c : ClassV} {p : ByteArray × ClassV} (h : p ∈ putL m k c) : p ∈ m ∨ p.2 = c := by
  induction m with
  | nil => simp only [putL, List.mem_singleton] at h; exact .inr (by rw [h])
  | cons q m ih =>
    rw [putL] at h
    split at h
    · rcases List.mem_cons.1 h with h | h
      · exact .inr (by rw [h])
      · exact .inl (List.mem_cons_of_mem _ h)
    · rcases List.mem_cons.1 h with h | h
      · exact .inl (by rw [h]; exact List.mem_cons_self ..)
      · rcases ih h with h | h
        · exact .inl (List.mem_cons_of_mem _ h)
        · exact .inr h
theorem putAll_mem (l : List ClassV) : ∀ (m : List (ByteArray × ClassV)) (p : ByteArray × ClassV), p ∈ putAll m l → p ∈ m ∨ p.2 ∈ l := by
  induction l with
  | nil => intro m p h; exact .inl h
  | cons c l ih =>
    intro m p h
    rcases ih _ p h with h | h
    · rcases putL_mem h with h | h
      · exact .inl h
      · exact .inr (by rw [h]; exact List.mem_cons_self ..)
    · exact .inr (List.mem_cons_of_mem _ h)
theorem gramM_mem {l : List ClassV} {p : ByteArray × ClassV} (h : p ∈ gramM l) : p.2 ∈ l := by
  rcases putAll_mem l [] p h with h | h
  · cases h
  · exact h
def itemOk (l : List ClassV) (x : ItemV) : Bool := (fitsI (gramM l) x 1 24).isSome
def askIOk (l : List ClassV) (xs : List ItemV) : Bool := gramOk l && xs.all (itemOk l)
def askIE (l : List ClassV) (xs : List ItemV) : Int := if gramOk l then (if xs.all (itemOk l) then 0 else 11) else 10
end Go.Proofs.YtppfniekcgnmjaaGreat.Pl
namespace Go.Proofs.YtppfniekcgnmjaaGreat.Pl
open Go.Sx Go.RowKit
set_option maxRecDepth 20000

end Go.Proofs.YtppfniekcgnmjaaGreat.Pl
namespace Go.Proofs.YtppfniekcgnmjaaGreat.Pl
open Go.Sx Go.RowKit
set_option maxRecDepth 20000
theorem k_within1 (n lo hi : Int) (w : World)  : Calls Tryz.prog 47 #[.int .i64 n, .int .i64 lo, .int .i64 hi] w (fun e w' => e = .returned (.bool (decide (lo ≤ n) && decide (n ≤ hi))) ∧ Grow w w') := by
  refine enter_pure (args := [.int .i64 n, .int .i64 lo, .int .i64 hi]) [] Tryz.func47 rfl (by rw [Tryz.ntmps47]; simp) (by simp) ?_
  refine cj_seq ?_
  refine cj_regionG (gj_step (y_assign rfl) rfl rfl rfl (gj_nil ?_))
  refine ej_th (cj_seq ?_)
  refine cj_regionG (gj_step (y_move rfl) rfl rfl rfl (gj_step (y_move rfl) rfl rfl rfl (gj_step (y_geq rfl rfl) rfl rfl rfl (gj_step (y_move rfl) rfl rfl rfl (gj_g 3 10 13 rfl rfl rfl rfl (fun hg10 => gj_yes rfl rfl rfl (y_move rfl) rfl rfl (gj_yes rfl rfl rfl (y_move rfl) rfl rfl (gj_yes rfl rfl rfl (y_leq rfl rfl) rfl rfl (gj_nil rfl)))) (gj_step (y_and rfl rfl rfl) rfl rfl rfl (gj_step (y_assign rfl) rfl rfl rfl (gj_nil ?_))))))))
  refine ej_th (cj_ret ?_)
  exact ej_ret1 rfl Tryz.results47 rfl (fun w' hp => ⟨rfl, hp.below⟩)

theorem k_IndexS (l : List ByteArray) (A : Option Addr) (c : Nat) (s : ByteArray) (w : World) (hl : Rd w 1 enStr A l) : Calls Tryz.prog 173 #[.slice A l.length c, .string s] w (fun e w' => e = .returned (.int .i64 (firstS s l 0)) ∧ Grow w w') := by
  have hlen := hl.len
  refine enter_pure (args := [.slice A l.length c, .string s]) [sl (fun b => b < w.heap.size) 1 enStr A l] Tryz.func173 rfl (by rw [Tryz.ntmps173]; simp) (fun g hg => by simp at hg; subst hg; exact ⟨hl, fun _ h => h⟩) ?_
  refine cj_seq ?_
  refine cj_regionG (gj_step (y_assign rfl) rfl rfl rfl (gj_nil ?_))
  refine ej_th (cj_seq (cj_seq ?_))
  refine cj_regionG (gj_step (y_move rfl) rfl rfl rfl (gj_step (y_lenA Tryz.underlying163 rfl) rfl rfl rfl (gj_step (y_move rfl) rfl rfl rfl (gj_nil ?_))))
  refine ej_th (cj_block ?_)
  refine cj_lpic (X := Nat) [(0, _), (1, _), (7, _)] (fun k => k ≤ l.length ∧ firstS s (l.drop k) k = firstS s l 0) (fun k => [(8, .int .i64 k)]) (fun k => l.length - k) 0 (⟨Nat.zero_le _, rfl⟩) ⟨rfl, rfl, rfl, rfl, trivial⟩ ?_
  rintro k ⟨hk, hs⟩
  dsimp only [List.cons_append, List.nil_append]
  refine cj_seq ?_
  refine cj_regionG (gj_step (y_lss rfl rfl) rfl rfl rfl (gj_nil ?_))
  refine ej_th (cj_seq ?_)
  refine cj_cond rfl (fun h9 => ?_) (fun h9 => ?_)
  · have h9b := h9
    try simp only [sxb] at h9
    obtain ⟨x, hx⟩ : ∃ x, l[k]? = some x := ⟨_, List.getElem?_eq_getElem (by omega)⟩
    rw [firstS_drop s l k x hx] at hs
    refine cj_skip (ej_th (cj_seq (cj_block (cj_seq ?_))))
    refine cj_regionG (gj_step (y_move rfl) rfl rfl rfl (gj_step (y_assign rfl) rfl rfl rfl (gj_nil ?_)))
    refine ej_th (cj_seq ?_)
    refine cj_regionG (gj_step (y_move rfl) rfl rfl rfl (gj_step (y_move rfl) rfl rfl rfl (gj_step (y_move rfl) rfl rfl rfl (gj_step (y_ixR (reads_sl) Tryz.underlying163 Tryz.sizeOf9 rfl rfl (⟨by omega, by omega⟩)) rfl rfl rfl (gj_step (y_ld0 (reads_sl) Tryz.isAgg9 rfl (hx) rfl) rfl rfl rfl (gj_step (y_eqlS rfl rfl) rfl rfl rfl (gj_nil ?_)))))))
    refine ej_th ?_
    refine cj_cond rfl (fun h16 => ?_) (fun h16 => ?_)
    · have h16b := h16
      try simp only [sxb] at h16
      refine cj_seq ?_
      refine cj_regionG (gj_step (y_move rfl) rfl rfl rfl (gj_step (y_assign rfl) rfl rfl rfl (gj_nil ?_)))
      refine ej_th (cj_ret (ej_blk_ret (ej_then_ret (ej_then_ret (ej_blk_ret (ej_then_ret ?_))))))
      refine ej_ret1 rfl Tryz.results173 rfl (fun w' hp => ⟨?_, hp.below⟩)
      rw [← hs, if_pos (bytes_eq h16).symm]
    · have h16b := h16
      try simp only [sxb] at h16
      refine cj_skip (ej_blk (ej_th ?_))
      refine cj_regionG (gj_step (y_add rfl rfl (by omega)) rfl rfl rfl (gj_step (y_move rfl) rfl rfl rfl (gj_nil ?_)))
      exact ej_nx (k + 1) (by omega) ⟨by omega, by rw [← hs, if_neg (fun e => bytes_ne h16 e.symm)]⟩ ⟨rfl, rfl, rfl, rfl, trivial⟩
  · have h9b := h9
    try simp only [sxb] at h9
    refine cj_exit (ej_then_exit (ej_then_exit (ej_blk_hit (ej_th (cj_seq ?_)))))
    refine cj_regionG (gj_step (y_assign rfl) rfl rfl rfl (gj_nil ?_))
    refine ej_th (cj_ret ?_)
    refine ej_ret1 rfl Tryz.results173 rfl (fun w' hp => ⟨?_, hp.below⟩)
    rw [← hs, List.drop_of_length_le (by omega)]; rfl

theorem k_ContainsS (l : List ByteArray) (A : Option Addr) (c : Nat) (s : ByteArray) (w : World) (hl : Rd w 1 enStr A l) : Calls Tryz.prog 158 #[.slice A l.length c, .string s] w (fun e w' => e = .returned (.bool (hasW l s)) ∧ Grow w w') := by
  refine enter_pure (args := [.slice A l.length c, .string s]) [sl (fun b => b < w.heap.size) 1 enStr A l] Tryz.func158 rfl (by rw [Tryz.ntmps158]; simp) (fun g hg => by simp at hg; subst hg; exact ⟨hl, fun _ h => h⟩) ?_
  refine cj_seq ?_
  refine cj_regionG (gj_step (y_assign rfl) rfl rfl rfl (gj_nil ?_))
  refine ej_th (cj_seq ?_)
  refine cj_regionG ?_
  refine gj_step (y_move rfl) rfl rfl rfl (gj_step (y_move rfl) rfl rfl rfl (?_))
  refine gj_step (y_call Tryz.call173 rfl (fun w hp => k_IndexS _ _ _ _ w hp.rd)) rfl rfl rfl ?_
  refine gj_step (y_geq rfl rfl) rfl rfl rfl (gj_step (y_assign rfl) rfl rfl rfl (?_))
  refine gj_nil ?_
  refine ej_th (cj_ret ?_)
  refine ej_ret1 rfl Tryz.results158 rfl (fun w' hp => ⟨?_, hp.below⟩)
  rw [firstS_has]

theorem k_words (l : List ByteArray) (A : Option Addr) (c : Nat) (w : World) (hl : Rd w 1 enStr A l) (hsm : smS l) : Calls Tryz.prog 155 #[.slice A l.length c] w (fun e w' => e = .returned (.bool (wordsB l)) ∧ Grow w w') := by
  have hlen := hl.len
  refine enter_pure (args := [.slice A l.length c]) [sl (fun b => b < w.heap.size) 1 enStr A l] Tryz.func155 rfl (by rw [Tryz.ntmps155]; simp) (fun g hg => by simp at hg; subst hg; exact ⟨hl, fun _ h => h⟩) ?_
  refine cj_seq ?_
  refine cj_regionG (gj_step (y_assign rfl) rfl rfl rfl (gj_nil ?_))
  refine ej_th (cj_seq (cj_region ?_))
  refine oj_makeMap ekS evB rfl (fun b6 => ?_)
  refine oj_step (y_assign rfl) rfl rfl rfl ?_
  refine oj_nil ?_
  refine ej_th (cj_seq (cj_seq ?_))
  refine cj_regionG (gj_step (y_move rfl) rfl rfl rfl (gj_step (y_lenA Tryz.underlying163 rfl) rfl rfl rfl (gj_step (y_move rfl) rfl rfl rfl (gj_nil ?_))))
  refine ej_th (cj_block ?_)
  refine cj_eqO [mp ekS evB b6 (mapW (l.take 0))] rfl ?_
  refine cj_lpi (X := Nat) [(3, _), (7, _), (8, _)] (fun k => k ≤ l.length ∧ wordsG (l.take k) (l.drop k) = wordsB l) (fun k => [(9, .int .i64 k)]) (fun k => [mp ekS evB b6 (mapW (l.take k))]) (fun k => [sl (fun b => b < w.heap.size) 1 enStr A l]) (fun k => l.length - k) 0 (⟨Nat.zero_le _, rfl⟩) ⟨rfl, rfl, rfl, rfl, trivial⟩ ?_
  rintro k ⟨hk, hs⟩
  dsimp only [List.cons_append, List.nil_append]
  refine cj_seq ?_
  refine cj_regionG (gj_step (y_lss rfl rfl) rfl rfl rfl (gj_nil ?_))
  refine ej_th (cj_seq ?_)
  refine cj_cond rfl (fun h10 => ?_) (fun h10 => ?_)
  · have h10b := h10
    try simp only [sxb] at h10
    obtain ⟨x, hx⟩ : ∃ x, l[k]? = some x := ⟨_, List.getElem?_eq_getElem (by omega)⟩
    rw [wordsG_drop l k x hx] at hs
    have hgl := getL_mapW (l.take k) x
    have htk : l.take (k + 1) = l.take k ++ [x] := by rw [List.take_add_one, hx]; rfl
    refine cj_skip (ej_th (cj_seq (cj_block (cj_seq ?_))))
    refine cj_regionG (gj_step (y_ixR (reads_sl) Tryz.underlying163 Tryz.sizeOf9 rfl rfl (⟨by omega, by omega⟩)) rfl rfl rfl (gj_step (y_ld0 (reads_sl) Tryz.isAgg9 rfl (hx) rfl) rfl rfl rfl (gj_step (y_assign rfl) rfl rfl rfl (gj_nil ?_))))
    refine ej_th (cj_seq (cj_seq ?_))
    refine cj_regionG ?_
    refine gj_step (y_move rfl) rfl rfl rfl (?_)
    refine gj_step (y_call Tryz.call22 rfl (fun w hp => k_IsWord _ w (hsm x (List.mem_of_getElem? hx)))) rfl rfl rfl ?_
    refine gj_step (y_not rfl) rfl rfl rfl (gj_step (y_move rfl) rfl rfl rfl (?_))
    refine gj_g 3 16 19 rfl rfl rfl rfl (fun hg16 => gj_yes rfl rfl rfl (y_move rfl) rfl rfl (gj_yes rfl rfl rfl (y_move rfl) rfl rfl (gj_yes rfl rfl rfl (y_lookup1 (ek := ekS) (ev := evB) false Tryz.underlying214 Tryz.underlying9 Tryz.zeroValue4 rfl rfl) rfl rfl (gj_nil rfl)))) ?_
    refine gj_step (y_or rfl rfl rfl) rfl rfl rfl (?_)
    refine gj_nil ?_
    refine ej_th ?_
    refine cj_cond rfl (fun h20 => ?_) (fun h20 => ?_)
    · have h20b := h20
      try simp only [sxb] at h20
      rw [hgl] at h20b
      have hgo := not_t ((words_V (l.take k) x).symm.trans h20b)
      refine cj_seq ?_
      refine cj_regionG (gj_step (y_assign rfl) rfl rfl rfl (gj_nil ?_))
      refine ej_th (cj_ret (ej_then_ret (ej_blk_ret (ej_then_ret (ej_then_ret (ej_blk_ret (ej_then_ret ?_)))))))
      refine ej_ret1 rfl Tryz.results155 rfl (fun w' hp => ⟨?_, hp.below⟩)
      rw [← hs, hgo]; rfl
    · have h20b := h20
      try simp only [sxb] at h20
      rw [hgl] at h20b
      have hgo := not_f ((words_V (l.take k) x).symm.trans h20b)
      have hnh : hasW (l.take k) x = false := by have := hgo; simp only [Bool.and_eq_true] at this; exact not_t this.2
      refine cj_skip (ej_th (cj_region ?_))
      refine oj_step (y_move rfl) rfl rfl rfl ?_
      refine oj_step (y_move rfl) rfl rfl rfl ?_
      refine oj_mapUpdate (ek := ekS) (ev := evB) (v := true) Tryz.underlying214 Tryz.underlying9 rfl rfl rfl ?_
      rw [putL_newW _ _ hnh, ← htk]
      refine oj_nil ?_
      refine ej_blk (ej_th ?_)
      refine cj_regionG (gj_step (y_add rfl rfl (by omega)) rfl rfl rfl (gj_step (y_move rfl) rfl rfl rfl (gj_nil ?_)))
      exact ej_nx (k + 1) (by omega) ⟨by omega, by rw [← hs, hgo, Bool.true_and]⟩ ⟨rfl, rfl, rfl, rfl, trivial⟩
  · have h10b := h10
    try simp only [sxb] at h10
    refine cj_exit (ej_then_exit (ej_then_exit (ej_blk_hit (ej_th (cj_seq ?_)))))
    refine cj_regionG (gj_step (y_assign rfl) rfl rfl rfl (gj_nil ?_))
    refine ej_th (cj_ret ?_)
    refine ej_ret1 rfl Tryz.results155 rfl (fun w' hp => ⟨?_, hp.below⟩)
    rw [← hs, List.drop_of_length_le (by omega)]; rfl

theorem k_gcl (s : ByteArray) (ns : List ByteArray) (B : Option Addr) (d : Nat) (b : Nat) (w : World) (hb : (ownB b (cellsB 163 [.slice B ns.length d])).P w) (hn : Rd w 1 enStr B ns) : Calls Tryz.prog 157 #[.string s, .pointer (some ⟨b, 0, none⟩)] w (fun e w' => e = .returned (.bool (!(hasW ns s))) ∧ Grow w w') := by
  refine enter_pure (args := [.string s, .pointer (some ⟨b, 0, none⟩)]) [sl (fun b => b < w.heap.size) 1 enStr B ns, ownB b (cellsB 163 [.slice B ns.length d])] Tryz.func157 rfl (by rw [Tryz.ntmps157]; simp) (fun g hg => by simp at hg; rcases hg with rfl | rfl; exact ⟨hn, fun _ h => h⟩; exact ⟨hb, fun i hi => by have : i = b := hi; subst this; exact (Array.getElem?_eq_some_iff.1 hb).1⟩) ?_
  refine cj_seq ?_
  refine cj_regionG (gj_step (y_assign rfl) rfl rfl rfl (gj_nil ?_))
  refine ej_th (cj_seq ?_)
  refine cj_regionG ?_
  refine gj_step (y_loadS1 Tryz.isAgg163 rfl rfl) rfl rfl rfl (gj_step (y_move rfl) rfl rfl rfl (?_))
  refine gj_step (y_call Tryz.call158 rfl (fun w hp => k_ContainsS _ _ _ _ w hp.rd)) rfl rfl rfl ?_
  refine gj_step (y_not rfl) rfl rfl rfl (gj_step (y_assign rfl) rfl rfl rfl (?_))
  refine gj_nil ?_
  refine ej_th (cj_ret ?_)
  exact ej_ret1 rfl Tryz.results157 rfl (fun w' hp => ⟨rfl, hp.below⟩)

theorem k_IndexFS (l : List ByteArray) (A : Option Addr) (c : Nat) (ns : List ByteArray) (B : Option Addr) (d : Nat) (b : Nat) (w : World) (hl : Rd w 1 enStr A l) (hb : (ownB b (cellsB 163 [.slice B ns.length d])).P w) (hn : Rd w 1 enStr B ns) : Calls Tryz.prog 172 #[.slice A l.length c, .func (.func 157) #[] #[.pointer (some ⟨b, 0, none⟩)]] w (fun e w' => e = .returned (.int .i64 (firstN ns l 0)) ∧ Grow w w') := by
  have hlen := hl.len
  refine enter_pure (args := [.slice A l.length c, .func (.func 157) #[] #[.pointer (some ⟨b, 0, none⟩)]]) [sl (fun b => b < w.heap.size) 1 enStr A l, sl (fun b => b < w.heap.size) 1 enStr B ns, ownB b (cellsB 163 [.slice B ns.length d])] Tryz.func172 rfl (by rw [Tryz.ntmps172]; simp) (fun g hg => by simp at hg; rcases hg with rfl | rfl | rfl; exact ⟨hl, fun _ h => h⟩; exact ⟨hn, fun _ h => h⟩; exact ⟨hb, fun i hi => by have : i = b := hi; subst this; exact (Array.getElem?_eq_some_iff.1 hb).1⟩) ?_
  refine cj_seq ?_
  refine cj_regionG (gj_step (y_assign rfl) rfl rfl rfl (gj_nil ?_))
  refine ej_th (cj_seq (cj_seq ?_))
  refine cj_regionG (gj_step (y_move rfl) rfl rfl rfl (gj_step (y_lenA Tryz.underlying163 rfl) rfl rfl rfl (gj_step (y_move rfl) rfl rfl rfl (gj_nil ?_))))
  refine ej_th (cj_block ?_)
  refine cj_lpic (X := Nat) [(0, _), (1, _), (7, _)] (fun k => k ≤ l.length ∧ firstN ns (l.drop k) k = firstN ns l 0) (fun k => [(8, .int .i64 k)]) (fun k => l.length - k) 0 (⟨Nat.zero_le _, rfl⟩) ⟨rfl, rfl, rfl, rfl, trivial⟩ ?_
  rintro k ⟨hk, hs⟩
  dsimp only [List.cons_append, List.nil_append]
  refine cj_seq ?_
  refine cj_regionG (gj_step (y_lss rfl rfl) rfl rfl rfl (gj_nil ?_))
  refine ej_th (cj_seq ?_)
  refine cj_cond rfl (fun h9 => ?_) (fun h9 => ?_)
  · have h9b := h9
    try simp only [sxb] at h9
    obtain ⟨x, hx⟩ : ∃ x, l[k]? = some x := ⟨_, List.getElem?_eq_getElem (by omega)⟩
    rw [firstN_drop ns l k x hx] at hs
    refine cj_skip (ej_th (cj_seq (cj_block (cj_seq ?_))))
    refine cj_regionG (gj_step (y_move rfl) rfl rfl rfl (gj_step (y_assign rfl) rfl rfl rfl (gj_nil ?_)))
    refine ej_th (cj_seq ?_)
    refine cj_regionG ?_
    refine gj_step (y_move rfl) rfl rfl rfl (gj_step (y_move rfl) rfl rfl rfl (gj_step (y_move rfl) rfl rfl rfl (gj_step (y_ixR (reads_sl) Tryz.underlying163 Tryz.sizeOf9 rfl rfl (⟨by omega, by omega⟩)) rfl rfl rfl (gj_step (y_ld0 (reads_sl) Tryz.isAgg9 rfl (hx) rfl) rfl rfl rfl (?_)))))
    refine gj_step (y_callV Tryz.call157 rfl rfl (fun w hp => k_gcl x ns B d b w hp.bs hp.rd)) rfl rfl rfl ?_
    refine gj_nil ?_
    refine ej_th ?_
    refine cj_cond rfl (fun h16 => ?_) (fun h16 => ?_)
    · have h16b := h16
      try simp only [sxb] at h16
      refine cj_seq ?_
      refine cj_regionG (gj_step (y_move rfl) rfl rfl rfl (gj_step (y_assign rfl) rfl rfl rfl (gj_nil ?_)))
      refine ej_th (cj_ret (ej_blk_ret (ej_then_ret (ej_then_ret (ej_blk_ret (ej_then_ret ?_))))))
      refine ej_ret1 rfl Tryz.results172 rfl (fun w' hp => ⟨?_, hp.below⟩)
      rw [← hs, if_pos h16]
    · have h16b := h16
      try simp only [sxb] at h16
      refine cj_skip (ej_blk (ej_th ?_))
      refine cj_regionG (gj_step (y_add rfl rfl (by omega)) rfl rfl rfl (gj_step (y_move rfl) rfl rfl rfl (gj_nil ?_)))
      exact ej_nx (k + 1) (by omega) ⟨by omega, by rw [← hs, if_neg (by simp [h16])]⟩ ⟨rfl, rfl, rfl, rfl, trivial⟩
  · have h9b := h9
    try simp only [sxb] at h9
    refine cj_exit (ej_then_exit (ej_then_exit (ej_blk_hit (ej_th (cj_seq ?_)))))
    refine cj_regionG (gj_step (y_assign rfl) rfl rfl rfl (gj_nil ?_))
    refine ej_th (cj_ret ?_)
    refine ej_ret1 rfl Tryz.results172 rfl (fun w' hp => ⟨?_, hp.below⟩)
    rw [← hs, List.drop_of_length_le (by omega)]; rfl

theorem k_ContainsFS (l : List ByteArray) (A : Option Addr) (c : Nat) (ns : List ByteArray) (B : Option Addr) (d : Nat) (b : Nat) (w : World) (hl : Rd w 1 enStr A l) (hb : (ownB b (cellsB 163 [.slice B ns.length d])).P w) (hn : Rd w 1 enStr B ns) : Calls Tryz.prog 156 #[.slice A l.length c, .func (.func 157) #[] #[.pointer (some ⟨b, 0, none⟩)]] w (fun e w' => e = .returned (.bool (!(l.all (hasW ns)))) ∧ Grow w w') := by
  refine enter_pure (args := [.slice A l.length c, .func (.func 157) #[] #[.pointer (some ⟨b, 0, none⟩)]]) [sl (fun b => b < w.heap.size) 1 enStr A l, sl (fun b => b < w.heap.size) 1 enStr B ns, ownB b (cellsB 163 [.slice B ns.length d])] Tryz.func156 rfl (by rw [Tryz.ntmps156]; simp) (fun g hg => by simp at hg; rcases hg with rfl | rfl | rfl; exact ⟨hl, fun _ h => h⟩; exact ⟨hn, fun _ h => h⟩; exact ⟨hb, fun i hi => by have : i = b := hi; subst this; exact (Array.getElem?_eq_some_iff.1 hb).1⟩) ?_
  refine cj_seq ?_
  refine cj_regionG (gj_step (y_assign rfl) rfl rfl rfl (gj_nil ?_))
  refine ej_th (cj_seq ?_)
  refine cj_regionG ?_
  refine gj_step (y_move rfl) rfl rfl rfl (gj_step (y_move rfl) rfl rfl rfl (?_))
  refine gj_step (y_call Tryz.call172 rfl (fun w hp => k_IndexFS l A c ns B d b w hp.rd hp.bs hp.rd)) rfl rfl rfl ?_
  refine gj_step (y_geq rfl rfl) rfl rfl rfl (gj_step (y_assign rfl) rfl rfl rfl (?_))
  refine gj_nil ?_
  refine ej_th (cj_ret ?_)
  refine ej_ret1 rfl Tryz.results156 rfl (fun w' hp => ⟨?_, hp.below⟩)
  rw [firstN_all]

end Go.Proofs.YtppfniekcgnmjaaGreat.Pl
namespace Go.Proofs.YtppfniekcgnmjaaGreat.Pl
open Go.Sx Go.RowKit
set_option maxRecDepth 20000
theorem el163 : ElemIs Tryz.prog 163 9 1 16 := ⟨⟨_, (.string ⟨#[]⟩), Tryz.underlying163, Tryz.type9, by kernel_rfl, by kernel_rfl, by kernel_rfl, by kernel_rfl, by decide⟩⟩
theorem fa165_0 : FieldIs Tryz.prog 165 0 0 1 false := ⟨⟨_, _, Tryz.underlying165, rfl, rfl, Tryz.sizeOf9, Tryz.isAgg9, by decide⟩⟩
theorem fa165_1 : FieldIs Tryz.prog 165 1 1 1 false := ⟨⟨_, _, Tryz.underlying165, rfl, rfl, Tryz.sizeOf163, Tryz.isAgg163, by decide⟩⟩
theorem fa168_0 : FieldIs Tryz.prog 168 0 0 1 false := ⟨⟨_, _, Tryz.underlying168, rfl, rfl, Tryz.sizeOf9, Tryz.isAgg9, by decide⟩⟩
theorem fa168_1 : FieldIs Tryz.prog 168 1 1 1 false := ⟨⟨_, _, Tryz.underlying168, rfl, rfl, Tryz.sizeOf166, Tryz.isAgg166, by decide⟩⟩
theorem fa168_2 : FieldIs Tryz.prog 168 2 2 1 false := ⟨⟨_, _, Tryz.underlying168, rfl, rfl, Tryz.sizeOf163, Tryz.isAgg163, by decide⟩⟩
theorem fa168_3 : FieldIs Tryz.prog 168 3 3 1 false := ⟨⟨_, _, Tryz.underlying168, rfl, rfl, Tryz.sizeOf3, Tryz.isAgg3, by decide⟩⟩
end Go.Proofs.YtppfniekcgnmjaaGreat.Pl
namespace Go.Proofs.YtppfniekcgnmjaaGreat.Pl
open Go.Sx Go.RowKit
set_option maxRecDepth 20000
set_option maxHeartbeats 1000000 in
theorem k_grammarOf (l : List ClassV) (A : Option Addr) (c : Nat) (w : World) (hl : Rd w 4 encCl A l) (hgc : ∀ c ∈ l, GoodC w c) : Calls Tryz.prog 133 #[.slice A l.length c] w (fun e w' => ∃ b, e = .returned (.tuple #[.map (bif gramOk l then some b else none), .int .i64 (gramE l)]) ∧ Grow w w' ∧ (gramOk l = true → (mp ekS evC b (gramM l)).P w' ∧ w.heap.size ≤ b ∧ b < w'.heap.size)) := by
  have hlen := hl.len
  refine enter_pure (args := [.slice A l.length c]) [sl (fun b => b < w.heap.size) 4 encCl A l] Tryz.func133 rfl (by rw [Tryz.ntmps133]; simp) (fun g hg => by simp at hg; subst hg; exact ⟨hl, fun _ h => h⟩) ?_
  refine cj_seq ?_
  refine cj_regionG (gj_step (y_assign rfl) rfl rfl rfl (gj_step (y_assign rfl) rfl rfl rfl (gj_nil ?_)))
  refine ej_th (cj_seq (cj_seq ?_))
  refine cj_regionG ?_
  refine gj_step (y_move rfl) rfl rfl rfl (gj_step (y_lenA Tryz.underlying169 rfl) rfl rfl rfl (?_))
  refine gj_step (y_call Tryz.call47 rfl (fun w hp => k_within1 _ _ _ w)) rfl rfl rfl ?_
  refine gj_step (y_not rfl) rfl rfl rfl (?_)
  refine gj_nil ?_
  refine ej_th ?_
  refine cj_cond rfl (fun h16 => ?_) (fun h16 => ?_)
  · have h16b := h16
    try simp only [sxb] at h16
    refine cj_seq ?_
    refine cj_regionG (gj_step (y_assign rfl) rfl rfl rfl (gj_step (y_assign rfl) rfl rfl rfl (gj_nil ?_)))
    refine ej_th (cj_ret (ej_then_ret ?_))
    have hg : gramOk l = false := by rw [gramOk, not_t h16b]; rfl
    exact ej_ret2 rfl Tryz.results133 rfl rfl (fun w' hp => ⟨0, by rw [gramE, hg]; rfl, hp.below, fun h => by rw [hg] at h; cases h⟩)
  · have h16b := h16
    try simp only [sxb] at h16
    have hwi := not_f h16b
    try simp only [Bool.and_eq_true, decide_eq_true_eq] at h16
    refine cj_skip (ej_th (cj_seq (cj_region ?_)))
    refine oj_makeMap ekS evC rfl (fun b17 => ?_)
    refine oj_step (y_assign rfl) rfl rfl rfl ?_
    refine oj_nil ?_
    refine ej_th (cj_seq (cj_region ?_))
    refine oj_alloc Tryz.zeroValue163 rfl rfl (fun b5 => ?_)
    refine oj_nil ?_
    refine ej_th (cj_seq (cj_seq ?_))
    refine cj_regionG (gj_step (y_move rfl) rfl rfl rfl (gj_step (y_lenA Tryz.underlying169 rfl) rfl rfl rfl (gj_step (y_move rfl) rfl rfl rfl (gj_nil ?_))))
    refine ej_th (cj_block ?_)
    refine cj_ownNil 9 1 enStr ?_
    refine cj_eqO [ow 9 1 enStr none 0 [], ownB b5 (cellsB 163 [.slice none ([] : List ByteArray).length 0]), mp ekS evC b17 (putAll [] (l.take 0))] rfl ?_
    refine cj_lpi (X := Nat × Option Addr × Nat × List ByteArray) [(0, _), (2, _), (3, _), (4, _), (5, _), (18, _), (19, _)] (fun ⟨k, A1, c1, xs⟩ => k ≤ l.length ∧ xs = namesC (l.take k)) (fun ⟨k, A1, c1, xs⟩ => [(20, .int .i64 k)]) (fun ⟨k, A1, c1, xs⟩ => [ow 9 1 enStr A1 c1 xs, ownB b5 (cellsB 163 [.slice A1 xs.length c1]), mp ekS evC b17 (putAll [] (l.take k))]) (fun ⟨k, A1, c1, xs⟩ => [sl (fun b => b < w.heap.size) 4 encCl A l]) (fun ⟨k, A1, c1, xs⟩ => l.length - k) (0, none, 0, []) (⟨Nat.zero_le _, rfl⟩) ⟨rfl, rfl, rfl, rfl, rfl, rfl, rfl, rfl, trivial⟩ ?_
    rintro ⟨k, A1, c1, xs⟩ ⟨hk, hxs⟩
    dsimp only [List.cons_append, List.nil_append]
    refine cj_seq ?_
    refine cj_regionG (gj_step (y_lss rfl rfl) rfl rfl rfl (gj_nil ?_))
    refine ej_th (cj_seq ?_)
    refine cj_cond rfl (fun h21 => ?_) (fun h21 => ?_)
    · have h21b := h21
      try simp only [sxb] at h21
      obtain ⟨x, hx⟩ : ∃ x, l[k]? = some x := ⟨_, List.getElem?_eq_getElem (by omega)⟩
      have htk : l.take (k + 1) = l.take k ++ [x] := by rw [List.take_add_one, hx]; rfl
      have hpk : putL (putAll [] (l.take k)) x.name x = putAll [] (l.take (k + 1)) := by rw [htk, putAll_add]
      have hxl : xs.length = k := by rw [hxs]; simp [namesC]; omega
      refine cj_skip (ej_th (cj_seq (cj_block (cj_seq (cj_region ?_)))))
      refine oj_step (y_ixR (reads_sl) Tryz.underlying169 Tryz.sizeOf168 rfl rfl (⟨by omega, by omega⟩)) rfl rfl rfl ?_
      refine oj_step (y_ldW (reads_sl) Tryz.isAgg168 Tryz.sizeOf168 rfl (hx) (fun _ => rfl)) rfl rfl rfl ?_
      refine oj_alloc Tryz.zeroValue168 rfl rfl (fun b7 => ?_)
      refine oj_store rfl rfl rfl rfl Tryz.sizeOf168 rfl ?_
      refine oj_nil ?_
      refine ej_th (cj_seq (cj_region ?_))
      refine oj_step (y_move rfl) rfl rfl rfl ?_
      refine oj_step (y_fa0 fa168_0 rfl) rfl rfl rfl ?_
      refine oj_step (y_load1 Tryz.isAgg9 rfl rfl) rfl rfl rfl ?_
      refine oj_step (y_loadN Tryz.isAgg168 Tryz.sizeOf168 rfl) rfl rfl rfl ?_
      refine oj_mapUpdate (ek := ekS) (ev := evC) (v := x) Tryz.underlying207 Tryz.underlying9 rfl rfl rfl ?_
      rw [hpk]
      refine oj_nil ?_
      refine ej_th (cj_region ?_)
      refine oj_step (y_load1 Tryz.isAgg163 rfl rfl) rfl rfl rfl ?_
      refine oj_step (y_fa0 fa168_0 rfl) rfl rfl rfl ?_
      refine oj_step (y_load1 Tryz.isAgg9 rfl rfl) rfl rfl rfl ?_
      refine oj_buildSlice (cs := [.string x.name]) [.string ⟨#[]⟩] Tryz.underlying163 Tryz.sizeOf9 Tryz.zeroValue9 rfl rfl (by kernel_rfl) (by kernel_rfl) rfl (fun b31 => ?_)
      refine oj_append  el163 (fun _ => rfl) enStr_one rfl rfl rfl (reads_lit [x.name] (fun _ => rfl) rfl) (by simp [maxLen]; omega) (by simp; omega) rfl (fun A32 c32 => ?_)
      refine oj_store rfl rfl rfl rfl Tryz.sizeOf163 rfl ?_
      refine oj_nil ?_
      refine ej_blk (ej_th ?_)
      refine cj_regionG (gj_step (y_add rfl rfl (by omega)) rfl rfl rfl (gj_step (y_move rfl) rfl rfl rfl (gj_nil ?_)))
      exact ej_nx (k + 1, A32, c32, xs ++ [x.name]) (by simp only; omega) ⟨by first | omega | (simp only; omega), by rw [hxs, htk]; simp [namesC]⟩ ⟨rfl, rfl, rfl, rfl, rfl, rfl, rfl, rfl, trivial⟩
    · have h21b := h21
      try simp only [sxb] at h21
      rw [List.take_of_length_le (by omega)] at hxs
      rw [List.take_of_length_le (by omega)]
      subst hxs
      have hnl : (namesC l).length = l.length := by simp [namesC]
      have hns : smS (namesC l) := by
        intro s hs
        obtain ⟨c, hc, rfl⟩ := List.mem_map.1 hs
        exact (hgc c hc).nm
      refine cj_exit (ej_then_exit (ej_then_exit (ej_blk_hit (ej_th (cj_seq (cj_seq ?_))))))
      refine cj_regionG ?_
      refine gj_step (y_load1 Tryz.isAgg163 rfl rfl) rfl rfl rfl (?_)
      refine gj_step (y_call Tryz.call155 rfl (fun w hp => k_words (namesC l) _ _ w (hp.rdO (fun _ => rfl) (by unfold maxLen; rw [hnl]; omega)) hns)) rfl rfl rfl ?_
      refine gj_step (y_not rfl) rfl rfl rfl (?_)
      refine gj_nil ?_
      refine ej_th ?_
      refine cj_cond rfl (fun h36 => ?_) (fun h36 => ?_)
      · have h36b := h36
        try simp only [sxb] at h36
        refine cj_seq ?_
        refine cj_regionG (gj_step (y_assign rfl) rfl rfl rfl (gj_step (y_assign rfl) rfl rfl rfl (gj_nil ?_)))
        refine ej_th (cj_ret (ej_then_ret ?_))
        have hg : gramOk l = false := by rw [gramOk, not_t h36b]; simp
        exact ej_ret2 rfl Tryz.results133 rfl rfl (fun w' hp => ⟨0, by rw [gramE, hg]; rfl, hp.below, fun h => by rw [hg] at h; cases h⟩)
      · have h36b := h36
        try simp only [sxb] at h36
        refine cj_skip (ej_th (cj_seq (cj_seq ?_)))
        refine cj_regionG (gj_step (y_move rfl) rfl rfl rfl (gj_step (y_lenA Tryz.underlying169 rfl) rfl rfl rfl (gj_step (y_move rfl) rfl rfl rfl (gj_nil ?_))))
        refine ej_th (cj_block ?_)
        refine cj_lpic (X := Nat) [(4, _), (5, _), (37, _), (38, _)] (fun k => k ≤ l.length ∧ (l.drop k).all (classOk (namesC l)) = l.all (classOk (namesC l))) (fun k => [(39, .int .i64 k)]) (fun k => l.length - k) 0 (⟨Nat.zero_le _, rfl⟩) ⟨rfl, rfl, rfl, rfl, rfl, trivial⟩ ?_
        rintro k ⟨hk, hal⟩
        dsimp only [List.cons_append, List.nil_append]
        refine cj_seq ?_
        refine cj_regionG (gj_step (y_lss rfl rfl) rfl rfl rfl (gj_nil ?_))
        refine ej_th (cj_seq ?_)
        refine cj_cond rfl (fun h40 => ?_) (fun h40 => ?_)
        · have h40b := h40
          try simp only [sxb] at h40
          obtain ⟨x, hx⟩ : ∃ x, l[k]? = some x := ⟨_, List.getElem?_eq_getElem (by omega)⟩
          rw [all_drop _ l k x hx] at hal
          have hgx := hgc x (List.mem_of_getElem? hx)
          have hl1 := hgx.rt.len
          have hl2 := hgx.rp.len
          refine cj_rd hgx.rp (fun _ h => h) ?_
          refine cj_rd hgx.rt (fun _ h => h) ?_
          refine cj_skip (ej_th (cj_seq (cj_block (cj_seq (cj_region ?_)))))
          refine oj_step (y_ixR (reads_sl) Tryz.underlying169 Tryz.sizeOf168 rfl rfl (⟨by omega, by omega⟩)) rfl rfl rfl ?_
          refine oj_step (y_ldW (reads_sl) Tryz.isAgg168 Tryz.sizeOf168 rfl (hx) (fun _ => rfl)) rfl rfl rfl ?_
          refine oj_alloc Tryz.zeroValue168 rfl rfl (fun b9 => ?_)
          refine oj_store rfl rfl rfl rfl Tryz.sizeOf168 rfl ?_
          refine oj_nil ?_
          refine ej_th (cj_seq (cj_seq ?_))
          refine cj_regionG ?_
          refine gj_step (y_fa fa168_1 rfl) rfl rfl rfl (gj_step (y_load1 Tryz.isAgg166 rfl rfl) rfl rfl rfl (gj_step (y_lenA Tryz.underlying166 rfl) rfl rfl rfl (gj_step (y_gtr rfl rfl) rfl rfl rfl (gj_step (y_move rfl) rfl rfl rfl (?_)))))
          refine gj_g 4 47 51 rfl rfl rfl rfl (fun hg47 => gj_yes rfl rfl rfl (y_fa fa168_3 rfl) rfl rfl (gj_yes rfl rfl rfl (y_load1 Tryz.isAgg3 rfl rfl) rfl rfl (gj_yes rfl rfl rfl (y_call Tryz.call47 rfl (fun w hp => k_within1 _ _ _ w)) rfl rfl (gj_yes rfl rfl rfl (y_not rfl) rfl rfl (gj_nil rfl))))) ?_
          refine gj_step (y_or rfl rfl rfl) rfl rfl rfl (gj_step (y_move rfl) rfl rfl rfl (?_))
          refine gj_g 9 53 62 rfl rfl rfl rfl (fun hg53 => gj_yes rfl rfl rfl (y_fa fa168_2 rfl) rfl rfl (gj_yes rfl rfl rfl (y_load1 Tryz.isAgg163 rfl rfl) rfl rfl (gj_yes rfl rfl rfl (y_lenA Tryz.underlying163 rfl) rfl rfl (gj_yes rfl rfl rfl (y_eql rfl rfl) rfl rfl (gj_yes rfl rfl rfl (y_move rfl) rfl rfl (gj_g 3 58 61 rfl rfl rfl rfl (fun hg58 => gj_yes rfl rfl rfl (y_fa fa168_3 rfl) rfl rfl (gj_yes rfl rfl rfl (y_load1 Tryz.isAgg3 rfl rfl) rfl rfl (gj_yes rfl rfl rfl (y_neq rfl rfl) rfl rfl (gj_nil rfl)))) (gj_yes rfl rfl rfl (y_and rfl rfl rfl) rfl rfl (gj_nil rfl)))))))) ?_
          refine gj_step (y_or rfl rfl rfl) rfl rfl rfl (gj_step (y_move rfl) rfl rfl rfl (?_))
          refine gj_g 4 64 68 rfl rfl rfl rfl (fun hg64 => gj_yes rfl rfl rfl (y_fa fa168_2 rfl) rfl rfl (gj_yes rfl rfl rfl (y_load1 Tryz.isAgg163 rfl rfl) rfl rfl (gj_yes rfl rfl rfl (y_call Tryz.call155 rfl (fun w hp => k_words x.parts _ _ w hp.rd hgx.sm)) rfl rfl (gj_yes rfl rfl rfl (y_not rfl) rfl rfl (gj_nil rfl))))) ?_
          refine gj_step (y_or rfl rfl rfl) rfl rfl rfl (?_)
          refine gj_nil ?_
          refine ej_th ?_
          refine cj_cond rfl (fun h69 => ?_) (fun h69 => ?_)
          · have h69b := h69
            try simp only [sxb] at h69
            have hc1 : class1 x = false := by unfold class1; rw [h69b]; rfl
            refine cj_seq ?_
            refine cj_regionG (gj_step (y_assign rfl) rfl rfl rfl (gj_step (y_assign rfl) rfl rfl rfl (gj_nil ?_)))
            refine ej_th (cj_ret (ej_then_ret (ej_blk_ret (ej_then_ret (ej_then_ret (ej_blk_ret (ej_then_ret ?_)))))))
            have hg : gramOk l = false := by rw [gramOk, ← hal, classOk, hc1]; simp
            exact ej_ret2 rfl Tryz.results133 rfl rfl (fun w' hp => ⟨0, by rw [gramE, hg]; rfl, hp.below, fun h => by rw [hg] at h; cases h⟩)
          · have h69b := h69
            try simp only [sxb] at h69
            have hc1 : class1 x = true := by unfold class1; rw [h69b]; rfl
            have ht8 := class1_tr hc1
            refine cj_skip (ej_th (cj_seq (cj_seq ?_)))
            refine cj_regionG ?_
            refine gj_step (y_fa fa168_2 rfl) rfl rfl rfl (gj_step (y_load1 Tryz.isAgg163 rfl rfl) rfl rfl rfl (gj_step (y_makeFunc rfl rfl) rfl rfl rfl (?_)))
            refine gj_step (y_call Tryz.call156 rfl (fun w hp => k_ContainsFS x.parts _ _ (namesC l) A1 c1 b5 w hp.rd hp.bo (hp.rdO (fun _ => rfl) (by unfold maxLen; rw [hnl]; omega)))) rfl rfl rfl ?_
            refine gj_nil ?_
            refine ej_th ?_
            refine cj_cond rfl (fun h73 => ?_) (fun h73 => ?_)
            · have h73b := h73
              try simp only [sxb] at h73
              have hpa := not_t h73b
              refine cj_seq ?_
              refine cj_regionG (gj_step (y_assign rfl) rfl rfl rfl (gj_step (y_assign rfl) rfl rfl rfl (gj_nil ?_)))
              refine ej_th (cj_ret (ej_then_ret (ej_blk_ret (ej_then_ret (ej_then_ret (ej_blk_ret (ej_then_ret ?_)))))))
              have hg : gramOk l = false := by rw [gramOk, ← hal, classOk, hpa]; simp
              exact ej_ret2 rfl Tryz.results133 rfl rfl (fun w' hp => ⟨0, by rw [gramE, hg]; rfl, hp.below, fun h => by rw [hg] at h; cases h⟩)
            · have h73b := h73
              try simp only [sxb] at h73
              have hpa := not_f h73b
              refine cj_skip (ej_th (cj_seq ?_))
              refine cj_regionG (gj_step (y_assign rfl) rfl rfl rfl (gj_nil ?_))
              refine ej_th (cj_seq (cj_seq ?_))
              refine cj_regionG (gj_step (y_fa fa168_1 rfl) rfl rfl rfl (gj_step (y_load1 Tryz.isAgg166 rfl rfl) rfl rfl rfl (gj_step (y_lenA Tryz.underlying166 rfl) rfl rfl rfl (gj_step (y_move rfl) rfl rfl rfl (gj_nil ?_)))))
              refine ej_th (cj_block ?_)
              refine cj_ownNil 9 1 enStr ?_
              refine cj_lpi (X := Nat × Option Addr × Nat × List ByteArray) [(39, _), (4, _), (5, _), (37, _), (38, _), (75, _), (76, _)] (fun ⟨j, A2, c2, ys⟩ => j ≤ x.traits.length ∧ ys = (x.traits.take j).map (·.name) ∧ (x.traits.drop j).all traitOk = x.traits.all traitOk) (fun ⟨j, A2, c2, ys⟩ => [(10, .slice A2 ys.length c2), (77, .int .i64 j)]) (fun ⟨j, A2, c2, ys⟩ => [ow 9 1 enStr A2 c2 ys, ow 9 1 enStr A1 c1 (namesC l), ownB b5 (cellsB 163 [.slice A1 (namesC l).length c1]), mp ekS evC b17 (putAll [] l)]) (fun ⟨j, A2, c2, ys⟩ => [sl (fun b => b < w.heap.size) 3 encTr x.At x.traits, sl (fun b => b < w.heap.size) 1 enStr x.Ap x.parts, sl (fun b => b < w.heap.size) 4 encCl A l]) (fun ⟨j, A2, c2, ys⟩ => x.traits.length - j) (0, none, 0, []) (⟨Nat.zero_le _, rfl, rfl⟩) ⟨rfl, rfl, rfl, rfl, rfl, rfl, rfl, rfl, rfl, trivial⟩ ?_
              rintro ⟨j, A2, c2, ys⟩ ⟨hj, hys, htl⟩
              dsimp only [List.cons_append, List.nil_append]
              refine cj_seq ?_
              refine cj_regionG (gj_step (y_lss rfl rfl) rfl rfl rfl (gj_nil ?_))
              refine ej_th (cj_seq ?_)
              refine cj_cond rfl (fun h78 => ?_) (fun h78 => ?_)
              · have h78b := h78
                try simp only [sxb] at h78
                obtain ⟨t, hy⟩ : ∃ t, x.traits[j]? = some t := ⟨_, List.getElem?_eq_getElem (by omega)⟩
                rw [all_drop _ x.traits j t hy] at htl
                have htk2 : x.traits.take (j + 1) = x.traits.take j ++ [t] := by rw [List.take_add_one, hy]; rfl
                have hyl : ys.length = j := by rw [hys]; simp; omega
                have hgt := hgx.tr t (List.mem_of_getElem? hy)
                have hl3 := hgt.rd.len
                refine cj_rd hgt.rd (fun _ h => h) ?_
                refine cj_skip (ej_th (cj_seq (cj_block (cj_seq (cj_region ?_)))))
                refine oj_step (y_ixR (reads_sl) Tryz.underlying166 Tryz.sizeOf165 rfl rfl (⟨by omega, by omega⟩)) rfl rfl rfl ?_
                refine oj_step (y_ldW (reads_sl) Tryz.isAgg165 Tryz.sizeOf165 rfl (hy) (fun _ => rfl)) rfl rfl rfl ?_
                refine oj_alloc Tryz.zeroValue165 rfl rfl (fun b12 => ?_)
                refine oj_store rfl rfl rfl rfl Tryz.sizeOf165 rfl ?_
                refine oj_nil ?_
                refine ej_th (cj_seq (cj_region ?_))
                refine oj_step (y_move rfl) rfl rfl rfl ?_
                refine oj_step (y_fa0 fa165_0 rfl) rfl rfl rfl ?_
                refine oj_step (y_load1 Tryz.isAgg9 rfl rfl) rfl rfl rfl ?_
                refine oj_buildSlice (cs := [.string t.name]) [.string ⟨#[]⟩] Tryz.underlying163 Tryz.sizeOf9 Tryz.zeroValue9 rfl rfl (by kernel_rfl) (by kernel_rfl) rfl (fun b84 => ?_)
                refine oj_append  el163 (fun _ => rfl) enStr_one rfl rfl rfl (reads_lit [t.name] (fun _ => rfl) rfl) (by simp [maxLen]; omega) (by simp; omega) rfl (fun A85 c85 => ?_)
                refine oj_step (y_assign rfl) rfl rfl rfl ?_
                refine oj_nil ?_
                refine ej_th (cj_seq ?_)
                refine cj_regionG ?_
                refine gj_step (y_fa fa165_1 rfl) rfl rfl rfl (gj_step (y_load1 Tryz.isAgg163 rfl rfl) rfl rfl rfl (gj_step (y_lenA Tryz.underlying163 rfl) rfl rfl rfl (?_)))
                refine gj_step (y_call Tryz.call47 rfl (fun w hp => k_within1 _ _ _ w)) rfl rfl rfl ?_
                refine gj_step (y_not rfl) rfl rfl rfl (gj_step (y_move rfl) rfl rfl rfl (?_))
                refine gj_g 4 91 95 rfl rfl rfl rfl (fun hg91 => gj_yes rfl rfl rfl (y_fa fa165_1 rfl) rfl rfl (gj_yes rfl rfl rfl (y_load1 Tryz.isAgg163 rfl rfl) rfl rfl (gj_yes rfl rfl rfl (y_call Tryz.call155 rfl (fun w hp => k_words t.vals _ _ w hp.rd (hgx.tr t (List.mem_of_getElem? hy)).sm)) rfl rfl (gj_yes rfl rfl rfl (y_not rfl) rfl rfl (gj_nil rfl))))) ?_
                refine gj_step (y_or rfl rfl rfl) rfl rfl rfl (?_)
                refine gj_nil ?_
                refine ej_th ?_
                refine cj_cond rfl (fun h96 => ?_) (fun h96 => ?_)
                · have h96b := h96
                  try simp only [sxb] at h96
                  have hto : traitOk t = false := by unfold traitOk; rw [h96b]; rfl
                  refine cj_seq ?_
                  refine cj_regionG (gj_step (y_assign rfl) rfl rfl rfl (gj_step (y_assign rfl) rfl rfl rfl (gj_nil ?_)))
                  refine ej_th (cj_ret (ej_blk_ret (ej_then_ret (ej_then_ret (ej_blk_ret (ej_then_ret (ej_blk_ret (ej_then_ret (ej_then_ret (ej_blk_ret (ej_then_ret ?_)))))))))))
                  have hg : gramOk l = false := by rw [gramOk, ← hal, classOk, ← htl, hto]; simp
                  exact ej_ret2 rfl Tryz.results133 rfl rfl (fun w' hp => ⟨0, by rw [gramE, hg]; rfl, hp.below, fun h => by rw [hg] at h; cases h⟩)
                · have h96b := h96
                  try simp only [sxb] at h96
                  have hto : traitOk t = true := by unfold traitOk; rw [h96b]; rfl
                  refine cj_skip (ej_blk (ej_th ?_))
                  refine cj_regionG (gj_step (y_add rfl rfl (by omega)) rfl rfl rfl (gj_step (y_move rfl) rfl rfl rfl (gj_nil ?_)))
                  exact ej_nx (j + 1, A85, c85, ys ++ [t.name]) (by simp only; omega) ⟨by first | omega | (simp only; omega), by rw [hys, htk2]; simp, by rw [← htl, hto, Bool.true_and]⟩ ⟨rfl, rfl, rfl, rfl, rfl, rfl, rfl, rfl, rfl, trivial⟩
              · have h78b := h78
                try simp only [sxb] at h78
                rw [List.take_of_length_le (by omega)] at hys
                rw [List.drop_of_length_le (by omega)] at htl
                have hts : smS ys := by
                  rw [hys]
                  intro s hs
                  obtain ⟨t, ht, rfl⟩ := List.mem_map.1 hs
                  exact (hgx.tr t ht).nm
                have hml : ys.length ≤ maxLen := by rw [hys]; unfold maxLen; simp only [List.length_map]; omega
                refine cj_exit (ej_then_exit (ej_then_exit (ej_blk_hit (ej_th (cj_seq ?_)))))
                refine cj_regionG ?_
                refine gj_step (y_move rfl) rfl rfl rfl (?_)
                refine gj_step (y_call Tryz.call155 rfl (fun w hp => k_words ys A2 c2 w (hp.rdO (A := A2) (fun _ => rfl) hml) hts)) rfl rfl rfl ?_
                refine gj_step (y_not rfl) rfl rfl rfl (?_)
                refine gj_nil ?_
                refine ej_th ?_
                refine cj_cond rfl (fun h100 => ?_) (fun h100 => ?_)
                · have h100b := h100
                  try simp only [sxb] at h100
                  refine cj_seq ?_
                  refine cj_regionG (gj_step (y_assign rfl) rfl rfl rfl (gj_step (y_assign rfl) rfl rfl rfl (gj_nil ?_)))
                  refine ej_th (cj_ret (ej_blk_ret (ej_then_ret (ej_then_ret (ej_blk_ret (ej_then_ret ?_))))))
                  have hg : gramOk l = false := by rw [gramOk, ← hal, classOk, ← hys, not_t h100b]; simp
                  exact ej_ret2 rfl Tryz.results133 rfl rfl (fun w' hp => ⟨0, by rw [gramE, hg]; rfl, hp.below, fun h => by rw [hg] at h; cases h⟩)
                · have h100b := h100
                  try simp only [sxb] at h100
                  have hco : classOk (namesC l) x = true := by rw [classOk, hc1, hpa, ← htl, ← hys, not_f h100b]; rfl
                  refine cj_skip (ej_blk (ej_th ?_))
                  refine cj_regionG (gj_step (y_add rfl rfl (by omega)) rfl rfl rfl (gj_step (y_move rfl) rfl rfl rfl (gj_nil ?_)))
                  exact ej_nx (k + 1) (by omega) ⟨by omega, by rw [← hal, hco, Bool.true_and]⟩ ⟨rfl, rfl, rfl, rfl, rfl, trivial⟩
        · have h40b := h40
          try simp only [sxb] at h40
          refine cj_exit (ej_then_exit (ej_then_exit (ej_blk_hit (ej_th (cj_seq ?_)))))
          refine cj_regionG (gj_step (y_move rfl) rfl rfl rfl (gj_step (y_assign rfl) rfl rfl rfl (gj_step (y_assign rfl) rfl rfl rfl (gj_nil ?_))))
          refine ej_th (cj_ret ?_)
          have hg : gramOk l = true := by rw [gramOk, hwi, not_f h36b, ← hal, List.drop_of_length_le (by omega)]; rfl
          exact ej_ret2 rfl Tryz.results133 rfl rfl (fun w' hp => ⟨b17, by rw [gramE, hg]; rfl, hp.below, fun _ => hp.newM⟩)

end Go.Proofs.YtppfniekcgnmjaaGreat.Pl
namespace Go.Proofs.YtppfniekcgnmjaaGreat.Pl
open Go.Sx Go.RowKit
set_option maxRecDepth 20000
theorem fa165_2 : FieldIs Tryz.prog 165 2 2 1 false := ⟨⟨_, _, Tryz.underlying165, rfl, rfl, Tryz.sizeOf4, Tryz.isAgg4, by decide⟩⟩
theorem fa174_0 : FieldIs Tryz.prog 174 0 0 1 false := ⟨⟨_, _, Tryz.underlying174, rfl, rfl, Tryz.sizeOf9, Tryz.isAgg9, by decide⟩⟩
theorem fa174_1 : FieldIs Tryz.prog 174 1 1 1 false := ⟨⟨_, _, Tryz.underlying174, rfl, rfl, Tryz.sizeOf163, Tryz.isAgg163, by decide⟩⟩
theorem fa174_2 : FieldIs Tryz.prog 174 2 2 1 false := ⟨⟨_, _, Tryz.underlying174, rfl, rfl, Tryz.sizeOf172, Tryz.isAgg172, by decide⟩⟩
end Go.Proofs.YtppfniekcgnmjaaGreat.Pl
namespace Go.Proofs.YtppfniekcgnmjaaGreat.Pl
open Go.Sx Go.RowKit
set_option maxRecDepth 20000
set_option maxHeartbeats 4000000 in
theorem k_fits (x : ItemV) (b : Nat) (g : List (ByteArray × ClassV)) (deep most : Int) (w : World) (hM : (mp ekS evC b g).P w) (hbl : b < w.heap.size) (hgg : ∀ p ∈ g, GoodC w p.2) (hx : GoodI w x) (hd : 1 ≤ deep ∧ deep ≤ 4) (hmo : 0 ≤ most ∧ most ≤ 24) (ih : ∀ p ∈ x.parts, ∀ (w1 : World) (dp mo : Int), Grow w w1 → 1 ≤ dp ∧ dp ≤ 4 → 0 ≤ mo ∧ mo ≤ 24 → Calls Tryz.prog 134 #[.map (some b), evI p, .int .i64 dp, .int .i64 mo] w1 (fun e w' => e = .returned (.tuple #[.int .i64 ((fitsI g p dp mo).getD 0), .bool (fitsI g p dp mo).isSome]) ∧ Grow w1 w')) : Calls Tryz.prog 134 #[.map (some b), evI x, .int .i64 deep, .int .i64 most] w (fun e w' => e = .returned (.tuple #[.int .i64 ((fitsI g x deep most).getD 0), .bool (fitsI g x deep most).isSome]) ∧ Grow w w') := by
  have hl1 := hx.rs.len
  have hl2 := hx.rp.len
  refine enter_pure (args := [.map (some b), evI x, .int .i64 deep, .int .i64 most]) [mp ekS evC b g] Tryz.func134 rfl (by rw [Tryz.ntmps134]; simp) (fun f hf => by simp at hf; subst hf; exact ⟨hM, fun i hi => by have : i = b := hi; subst this; exact hbl⟩) ?_
  refine cj_seq (cj_region ?_)
  refine oj_box rfl rfl rfl (fun b5 => ?_)
  refine oj_step (y_assign rfl) rfl rfl rfl ?_
  refine oj_step (y_assign rfl) rfl rfl rfl ?_
  refine oj_nil ?_
  refine ej_th (cj_seq (cj_region ?_))
  refine oj_step (y_move rfl) rfl rfl rfl ?_
  refine oj_step (y_fa0 fa174_0 rfl) rfl rfl rfl ?_
  refine oj_step (y_load1 Tryz.isAgg9 rfl rfl) rfl rfl rfl ?_
  refine oj_step (y_lookupS (ek := ekS) (ev := evC) zC Tryz.underlying207 Tryz.underlying9 Tryz.zeroValue168 rfl rfl) rfl rfl rfl ?_
  refine oj_step (y_move rfl) rfl rfl rfl ?_
  refine oj_step (y_extract rfl rfl) rfl rfl rfl ?_
  refine oj_step (y_extract rfl rfl) rfl rfl rfl ?_
  refine oj_alloc Tryz.zeroValue168 rfl rfl (fun b10 => ?_)
  refine oj_store rfl rfl rfl rfl Tryz.sizeOf168 rfl ?_
  refine oj_step (y_assign rfl) rfl rfl rfl ?_
  refine oj_nil ?_
  refine ej_th (cj_seq (cj_seq ?_))
  refine cj_regionG (gj_step (y_move rfl) rfl rfl rfl (gj_step (y_not rfl) rfl rfl rfl (gj_step (y_move rfl) rfl rfl rfl (gj_g 2 28 30 rfl rfl rfl rfl (fun hg28 => gj_yes rfl rfl rfl (y_move rfl) rfl rfl (gj_yes rfl rfl rfl (y_gtr rfl rfl) rfl rfl (gj_nil rfl))) (gj_step (y_or rfl rfl rfl) rfl rfl rfl (gj_step (y_move rfl) rfl rfl rfl (gj_g 2 32 34 rfl rfl rfl rfl (fun hg32 => gj_yes rfl rfl rfl (y_move rfl) rfl rfl (gj_yes rfl rfl rfl (y_lss rfl rfl) rfl rfl (gj_nil rfl))) (gj_step (y_or rfl rfl rfl) rfl rfl rfl (gj_step (y_move rfl) rfl rfl rfl (gj_g 7 36 43 rfl rfl rfl rfl (fun hg36 => gj_yes rfl rfl rfl (y_fa fa174_1 rfl) rfl rfl (gj_yes rfl rfl rfl (y_load1 Tryz.isAgg163 rfl rfl) rfl rfl (gj_yes rfl rfl rfl (y_lenA Tryz.underlying163 rfl) rfl rfl (gj_yes rfl rfl rfl (y_fa fa168_1 rfl) rfl rfl (gj_yes rfl rfl rfl (y_load1 Tryz.isAgg166 rfl rfl) rfl rfl (gj_yes rfl rfl rfl (y_lenA Tryz.underlying166 rfl) rfl rfl (gj_yes rfl rfl rfl (y_neq rfl rfl) rfl rfl (gj_nil rfl)))))))) (gj_step (y_or rfl rfl rfl) rfl rfl rfl (gj_step (y_move rfl) rfl rfl rfl (gj_g 6 45 51 rfl rfl rfl rfl (fun hg45 => gj_yes rfl rfl rfl (y_fa fa174_2 rfl) rfl rfl (gj_yes rfl rfl rfl (y_load1 Tryz.isAgg172 rfl rfl) rfl rfl (gj_yes rfl rfl rfl (y_lenA Tryz.underlying172 rfl) rfl rfl (gj_yes rfl rfl rfl (y_fa fa168_3 rfl) rfl rfl (gj_yes rfl rfl rfl (y_load1 Tryz.isAgg3 rfl rfl) rfl rfl (gj_yes rfl rfl rfl (y_gtr rfl rfl) rfl rfl (gj_nil rfl))))))) (gj_step (y_or rfl rfl rfl) rfl rfl rfl (gj_nil ?_)))))))))))))))
  refine ej_th ?_
  refine cj_cond rfl (fun h52 => ?_) (fun h52 => ?_)
  · have h52b := h52
    try simp only [sxb] at h52
    refine cj_seq ?_
    refine cj_regionG (gj_step (y_assign rfl) rfl rfl rfl (gj_step (y_assign rfl) rfl rfl rfl (gj_nil ?_)))
    refine ej_th (cj_ret (ej_then_ret ?_))
    have hf : fitsI g x deep most = none := by exact fitsI_none h52b
    exact ej_ret2 rfl Tryz.results134 rfl rfl (fun w' hp => ⟨by rw [hf]; rfl, hp.below⟩)
  · have h52b := h52
    try simp only [sxb] at h52
    obtain ⟨c, hc, hd3, hm1, hsl, hfi⟩ := fitsI_some h52b
    rw [hc]
    dsimp only [Option.getD_some]
    obtain ⟨pc, hpc, hpe⟩ := getL_mem hc
    have hgc := hgg pc hpc
    rw [hpe] at hgc
    have hl3 := hgc.rt.len
    have hl4 := hgc.rp.len
    refine cj_rd hx.rs (fun _ h => h) ?_
    refine cj_rd hx.rp (fun _ h => h) ?_
    refine cj_rd hgc.rt (fun _ h => h) ?_
    refine cj_rd hgc.rp (fun _ h => h) ?_
    refine cj_skip (ej_th (cj_seq (cj_seq ?_)))
    refine cj_regionG (gj_step (y_fa fa168_1 rfl) rfl rfl rfl (gj_step (y_load1 Tryz.isAgg166 rfl rfl) rfl rfl rfl (gj_step (y_lenA Tryz.underlying166 rfl) rfl rfl rfl (gj_step (y_move rfl) rfl rfl rfl (gj_nil ?_)))))
    refine ej_th (cj_block ?_)
    refine cj_lpic (X := Nat) [(0, _), (2, _), (3, _), (5, _), (10, _), (54, _), (55, _)] (fun k => k ≤ c.traits.length ∧ saysOk (c.traits.drop k) (x.says.drop k) = saysOk c.traits x.says) (fun k => [(56, .int .i64 k)]) (fun k => c.traits.length - k) 0 (⟨Nat.zero_le _, rfl⟩) ⟨rfl, rfl, rfl, rfl, rfl, rfl, rfl, rfl, trivial⟩ ?_
    rintro k ⟨hk, hso⟩
    dsimp only [List.cons_append, List.nil_append]
    refine cj_seq ?_
    refine cj_regionG (gj_step (y_lss rfl rfl) rfl rfl rfl (gj_nil ?_))
    refine ej_th (cj_seq ?_)
    refine cj_cond rfl (fun h57 => ?_) (fun h57 => ?_)
    · have h57b := h57
      try simp only [sxb] at h57
      obtain ⟨t, ht⟩ : ∃ t, c.traits[k]? = some t := ⟨_, List.getElem?_eq_getElem (by omega)⟩
      obtain ⟨s, hs⟩ : ∃ s, x.says[k]? = some s := ⟨_, List.getElem?_eq_getElem (by omega)⟩
      rw [saysOk_drop _ _ k t s ht hs] at hso
      have hgt := hgc.tr t (List.mem_of_getElem? ht)
      have hl5 := hgt.rd.len
      refine cj_rd hgt.rd (fun _ h => h) ?_
      refine cj_skip (ej_th (cj_seq (cj_block (cj_seq (cj_region ?_)))))
      refine oj_step (y_move rfl) rfl rfl rfl ?_
      refine oj_step (y_ixR (reads_sl) Tryz.underlying166 Tryz.sizeOf165 rfl rfl (⟨by omega, by omega⟩)) rfl rfl rfl ?_
      refine oj_step (y_ldW (reads_sl) Tryz.isAgg165 Tryz.sizeOf165 rfl (ht) (fun _ => rfl)) rfl rfl rfl ?_
      refine oj_alloc Tryz.zeroValue165 rfl rfl (fun b13 => ?_)
      refine oj_step (y_assign rfl) rfl rfl rfl ?_
      refine oj_store rfl rfl rfl rfl Tryz.sizeOf165 rfl ?_
      refine oj_nil ?_
      refine ej_th (cj_seq ?_)
      refine cj_draw (by kernel_rfl) (by kernel_rfl) ?_
      refine gj_step (y_fa fa174_1 rfl) rfl rfl rfl (gj_step (y_load1 Tryz.isAgg163 rfl rfl) rfl rfl rfl (gj_step (y_move rfl) rfl rfl rfl (gj_step (y_ixR (reads_sl) Tryz.underlying163 Tryz.sizeOf9 rfl rfl (⟨by omega, by omega⟩)) rfl rfl rfl (gj_step (y_ld0 (reads_sl) Tryz.isAgg9 rfl (hs) rfl) rfl rfl rfl (gj_step (y_eqlS rfl rfl) rfl rfl rfl (gj_step (y_move rfl) rfl rfl rfl (?_)))))))
      refine gj_g 2 67 69 rfl rfl rfl rfl (fun hg67 => gj_yes rfl rfl rfl (y_fa fa165_2 rfl) rfl rfl (gj_yes rfl rfl rfl (y_load1 Tryz.isAgg4 rfl rfl) rfl rfl (gj_nil rfl))) ?_
      refine gj_step (y_and rfl rfl rfl) rfl rfl rfl (gj_step (y_move rfl) rfl rfl rfl (?_))
      refine gj_g 17 71 88 rfl rfl rfl rfl (fun hg71 => gj_yes rfl rfl rfl (y_fa fa174_1 rfl) rfl rfl (gj_yes rfl rfl rfl (y_load1 Tryz.isAgg163 rfl rfl) rfl rfl (gj_yes rfl rfl rfl (y_move rfl) rfl rfl (gj_yes rfl rfl rfl (y_ixR (reads_sl) Tryz.underlying163 Tryz.sizeOf9 rfl rfl (⟨by omega, by omega⟩)) rfl rfl (gj_yes rfl rfl rfl (y_ld0 (reads_sl) Tryz.isAgg9 rfl (hs) rfl) rfl rfl (gj_yes rfl rfl rfl (y_neqS rfl rfl) rfl rfl (gj_yes rfl rfl rfl (y_move rfl) rfl rfl (gj_g 9 78 87 rfl rfl rfl rfl (fun hg78 => gj_yes rfl rfl rfl (y_fa fa165_1 rfl) rfl rfl (gj_yes rfl rfl rfl (y_load1 Tryz.isAgg163 rfl rfl) rfl rfl (gj_yes rfl rfl rfl (y_fa fa174_1 rfl) rfl rfl (gj_yes rfl rfl rfl (y_load1 Tryz.isAgg163 rfl rfl) rfl rfl (gj_yes rfl rfl rfl (y_move rfl) rfl rfl (gj_yes rfl rfl rfl (y_ixR (reads_sl) Tryz.underlying163 Tryz.sizeOf9 rfl rfl (⟨by omega, by omega⟩)) rfl rfl (gj_yes rfl rfl rfl (y_ld0 (reads_sl) Tryz.isAgg9 rfl (hs) rfl) rfl rfl (gj_yes rfl rfl rfl (y_call Tryz.call158 rfl (fun w hp => k_ContainsS t.vals _ _ s w hp.rd)) rfl rfl (gj_yes rfl rfl rfl (y_not rfl) rfl rfl (gj_nil rfl)))))))))) (gj_yes rfl rfl rfl (y_and rfl rfl rfl) rfl rfl (gj_nil rfl)))))))))) ?_
      refine gj_step (y_or rfl rfl rfl) rfl rfl rfl (?_)
      refine gj_nil ?_
      refine ej_th ?_
      refine cj_cond rfl (fun h89 => ?_) (fun h89 => ?_)
      · have h89b := h89
        try simp only [sxb] at h89
        have hon : saysOne t s = false := congrArg Bool.not h89b
        refine cj_seq ?_
        refine cj_regionG (gj_step (y_assign rfl) rfl rfl rfl (gj_step (y_assign rfl) rfl rfl rfl (gj_nil ?_)))
        refine ej_th (cj_ret (ej_blk_ret (ej_then_ret (ej_then_ret (ej_blk_ret (ej_then_ret ?_))))))
        have hf : fitsI g x deep most = none := by rw [hfi, ← hso, hon]; rfl
        exact ej_ret2 rfl Tryz.results134 rfl rfl (fun w' hp => ⟨by rw [hf]; rfl, hp.below⟩)
      · have h89b := h89
        try simp only [sxb] at h89
        have hon : saysOne t s = true := congrArg Bool.not h89b
        refine cj_skip (ej_blk (ej_th ?_))
        refine cj_regionG (gj_step (y_add rfl rfl (by omega)) rfl rfl rfl (gj_step (y_move rfl) rfl rfl rfl (gj_nil ?_)))
        exact ej_nx (k + 1) (by omega) ⟨by omega, by rw [← hso, hon, Bool.true_and]⟩ ⟨rfl, rfl, rfl, rfl, rfl, rfl, rfl, rfl, trivial⟩
    · have h57b := h57
      try simp only [sxb] at h57
      have hsk : saysOk c.traits x.says = true := by rw [← hso, List.drop_of_length_le (by omega)]; rfl
      rw [if_pos hsk] at hfi
      refine cj_exit (ej_then_exit (ej_then_exit (ej_blk_hit (ej_th (cj_seq ?_)))))
      refine cj_regionG (gj_step (y_assign rfl) rfl rfl rfl (gj_nil ?_))
      refine ej_th (cj_seq (cj_seq ?_))
      refine cj_regionG (gj_step (y_fa fa174_2 rfl) rfl rfl rfl (gj_step (y_load1 Tryz.isAgg172 rfl rfl) rfl rfl rfl (gj_step (y_lenA Tryz.underlying172 rfl) rfl rfl rfl (gj_step (y_move rfl) rfl rfl rfl (gj_nil ?_)))))
      refine ej_th (cj_block ?_)
      refine cj_lpic (X := Nat × Int) [(0, _), (2, _), (3, _), (10, _), (92, _), (93, _)] (fun ⟨k, many⟩ => k ≤ x.parts.length ∧ (1 ≤ many ∧ many ≤ most) ∧ fitsL g c.parts (x.parts.drop k) deep most many = fitsL g c.parts x.parts deep most 1) (fun ⟨k, many⟩ => [(14, .int .i64 many), (94, .int .i64 k)]) (fun ⟨k, many⟩ => x.parts.length - k) (0, 1) (⟨Nat.zero_le _, ⟨Int.le_refl _, hm1⟩, rfl⟩) ⟨rfl, rfl, rfl, rfl, rfl, rfl, rfl, rfl, trivial⟩ ?_
      rintro ⟨k, many⟩ ⟨hk, hmn, hfl⟩
      dsimp only [List.cons_append, List.nil_append]
      refine cj_seq ?_
      refine cj_regionG (gj_step (y_lss rfl rfl) rfl rfl rfl (gj_nil ?_))
      refine ej_th (cj_seq ?_)
      refine cj_cond rfl (fun h95 => ?_) (fun h95 => ?_)
      · have h95b := h95
        try simp only [sxb] at h95
        obtain ⟨q, hq⟩ : ∃ q, x.parts[k]? = some q := ⟨_, List.getElem?_eq_getElem (by omega)⟩
        rw [fitsL_drop _ _ _ k q _ _ _ hq] at hfl
        refine cj_skip (ej_th (cj_seq (cj_block (cj_seq (cj_region ?_)))))
        refine oj_step (y_ixR (reads_sl) Tryz.underlying172 Tryz.sizeOf174 rfl rfl (⟨by omega, by omega⟩)) rfl rfl rfl ?_
        refine oj_step (y_ldW (reads_sl) Tryz.isAgg174 Tryz.sizeOf174 rfl (hq) (fun _ => rfl)) rfl rfl rfl ?_
        refine oj_alloc Tryz.zeroValue174 rfl rfl (fun b16 => ?_)
        refine oj_store rfl rfl rfl rfl Tryz.sizeOf174 rfl ?_
        refine oj_nil ?_
        refine ej_th (cj_seq (cj_seq ?_))
        refine cj_regionG ?_
        refine gj_step (y_fa fa168_2 rfl) rfl rfl rfl (gj_step (y_load1 Tryz.isAgg163 rfl rfl) rfl rfl rfl (gj_step (y_fa0 fa174_0 rfl) rfl rfl rfl (gj_step (y_load1 Tryz.isAgg9 rfl rfl) rfl rfl rfl (?_))))
        refine gj_step (y_call Tryz.call158 rfl (fun w hp => k_ContainsS c.parts _ _ q.cls w hp.rd)) rfl rfl rfl ?_
        refine gj_step (y_not rfl) rfl rfl rfl (?_)
        refine gj_nil ?_
        refine ej_th ?_
        refine cj_cond rfl (fun h103 => ?_) (fun h103 => ?_)
        · have h103b := h103
          try simp only [sxb] at h103
          have hhw := not_t h103b
          refine cj_seq ?_
          refine cj_regionG (gj_step (y_assign rfl) rfl rfl rfl (gj_step (y_assign rfl) rfl rfl rfl (gj_nil ?_)))
          refine ej_th (cj_ret (ej_then_ret (ej_blk_ret (ej_then_ret (ej_then_ret (ej_blk_ret (ej_then_ret ?_)))))))
          have hf : fitsI g x deep most = none := by rw [hfi, ← hfl, if_neg (by rw [hhw]; simp)]
          exact ej_ret2 rfl Tryz.results134 rfl rfl (fun w' hp => ⟨by rw [hf]; rfl, hp.below⟩)
        · have h103b := h103
          try simp only [sxb] at h103
          have hhw := not_f h103b
          rw [if_pos hhw] at hfl
          refine cj_skip (ej_th (cj_seq ?_))
          refine cj_regionG ?_
          refine gj_step (y_move rfl) rfl rfl rfl (gj_step (y_loadN Tryz.isAgg174 Tryz.sizeOf174 rfl) rfl rfl rfl (gj_step (y_move rfl) rfl rfl rfl (gj_step (y_add rfl rfl (by omega)) rfl rfl rfl (gj_step (y_move rfl) rfl rfl rfl (gj_step (y_move rfl) rfl rfl rfl (gj_step (y_sub rfl rfl (by omega)) rfl rfl rfl (?_)))))))
          refine gj_step (y_call Tryz.call134 rfl (fun w hp => ih q (List.mem_of_getElem? hq) w (deep + 1) (most - many) hp.below (by omega) (by omega))) rfl rfl rfl ?_
          refine gj_step (y_move rfl) rfl rfl rfl (gj_step (y_extract rfl rfl) rfl rfl rfl (gj_step (y_extract rfl rfl) rfl rfl rfl (gj_step (y_assign rfl) rfl rfl rfl (gj_step (y_assign rfl) rfl rfl rfl (?_)))))
          refine gj_nil ?_
          refine ej_th (cj_seq (cj_seq ?_))
          refine cj_regionG (gj_step (y_move rfl) rfl rfl rfl (gj_step (y_not rfl) rfl rfl rfl (gj_nil ?_)))
          refine ej_th ?_
          refine cj_cond rfl (fun h116 => ?_) (fun h116 => ?_)
          · have h116b := h116
            try simp only [sxb] at h116
            have hno : fitsI g q (deep + 1) (most - many) = none := by have := not_t h116b; simpa using this
            refine cj_seq ?_
            refine cj_regionG (gj_step (y_assign rfl) rfl rfl rfl (gj_step (y_assign rfl) rfl rfl rfl (gj_nil ?_)))
            refine ej_th (cj_ret (ej_then_ret (ej_blk_ret (ej_then_ret (ej_then_ret (ej_blk_ret (ej_then_ret ?_)))))))
            have hf : fitsI g x deep most = none := by rw [hfi, ← hfl, hno]
            exact ej_ret2 rfl Tryz.results134 rfl rfl (fun w' hp => ⟨by rw [hf]; rfl, hp.below⟩)
          · have h116b := h116
            try simp only [sxb] at h116
            obtain ⟨n, hn⟩ := Option.isSome_iff_exists.1 (not_f h116b)
            have hnb := fitsI_bd g q _ _ n hn
            rw [hn]
            dsimp only [Option.getD_some]
            rw [hn] at hfl
            refine cj_skip (ej_th ?_)
            refine cj_regionG (gj_step (y_move rfl) rfl rfl rfl (gj_step (y_move rfl) rfl rfl rfl (gj_step (y_add rfl rfl (by omega)) rfl rfl rfl (gj_step (y_assign rfl) rfl rfl rfl (gj_nil ?_)))))
            refine ej_blk (ej_th ?_)
            refine cj_regionG (gj_step (y_add rfl rfl (by omega)) rfl rfl rfl (gj_step (y_move rfl) rfl rfl rfl (gj_nil ?_)))
            exact ej_nx (k + 1, many + n) (by simp only; omega) ⟨by first | omega | (simp only; omega), by first | omega | (simp only; omega), hfl⟩ ⟨rfl, rfl, rfl, rfl, rfl, rfl, rfl, rfl, trivial⟩
      · have h95b := h95
        try simp only [sxb] at h95
        refine cj_exit (ej_then_exit (ej_then_exit (ej_blk_hit (ej_th (cj_seq ?_)))))
        refine cj_regionG (gj_step (y_move rfl) rfl rfl rfl (gj_step (y_assign rfl) rfl rfl rfl (gj_step (y_assign rfl) rfl rfl rfl (gj_nil ?_))))
        refine ej_th (cj_ret ?_)
        have hf : fitsI g x deep most = some many := by rw [hfi, ← hfl, List.drop_of_length_le (by omega)]; rfl
        exact ej_ret2 rfl Tryz.results134 rfl rfl (fun w' hp => ⟨by rw [hf]; rfl, hp.below⟩)

theorem k_fitsA {w0 : World} {x : ItemV} (hx : GoodI w0 x) : ∀ (w : World) (b : Nat) (g : List (ByteArray × ClassV)) (deep most : Int), Grow w0 w → (mp ekS evC b g).P w → b < w.heap.size → (∀ p ∈ g, GoodC w p.2) → 1 ≤ deep ∧ deep ≤ 4 → 0 ≤ most ∧ most ≤ 24 →
    Calls Tryz.prog 134 #[.map (some b), evI x, .int .i64 deep, .int .i64 most] w (fun e w' => e = .returned (.tuple #[.int .i64 ((fitsI g x deep most).getD 0), .bool (fitsI g x deep most).isSome]) ∧ Grow w w') := by
  induction hx with
  | mk hs hp hn hm hr ih =>
    intro w b g deep most hg hM hb hgg hd hmo
    exact k_fits _ b g deep most w hM hb hgg ((GoodI.mk hs hp hn hm hr).mono hg) hd hmo (fun p hpm w1 dp mo hg1 h1 h2 => ih p hpm w1 b g dp mo (grow_trans hg hg1) ((mp ekS evC b g).stab (fun i hi => by have : i = b := hi; subst this; exact hg1.block _ hb) hM) (Nat.lt_of_lt_of_le hb hg1.size) (fun q hq => (hgg q hq).mono hg1) h1 h2)

end Go.Proofs.YtppfniekcgnmjaaGreat.Pl
namespace Go.Proofs.YtppfniekcgnmjaaGreat.Pl
open Go.Sx Go.RowKit
set_option maxRecDepth 20000

end Go.Proofs.YtppfniekcgnmjaaGreat.Pl
namespace Go.Proofs.YtppfniekcgnmjaaGreat.Pl
open Go.Sx Go.RowKit
set_option maxRecDepth 20000
theorem k_gram_bad (l : List ClassV) (A : Option Addr) (c : Nat) (w : World) (hl : Rd w 4 encCl A l) (hgc : ∀ c ∈ l, GoodC w c) (hok : gramOk l = false) : Calls Tryz.prog 133 #[.slice A l.length c] w (fun e w' => e = .returned (.tuple #[.map none, .int .i64 10]) ∧ Grow w w') :=
  (k_grammarOf l A c w hl hgc).mono fun e w' ⟨b, he, hg, _⟩ => ⟨by rw [he, gramE, hok]; rfl, hg⟩
theorem k_gram_ok (l : List ClassV) (A : Option Addr) (c : Nat) (w : World) (hl : Rd w 4 encCl A l) (hgc : ∀ c ∈ l, GoodC w c) (hok : gramOk l = true) : Calls Tryz.prog 133 #[.slice A l.length c] w (fun e w' => ∃ b, e = .returned (.tuple #[.map (some b), .int .i64 0]) ∧ Grow w w' ∧ (mp ekS evC b (gramM l)).P w' ∧ w.heap.size ≤ b ∧ b < w'.heap.size) :=
  (k_grammarOf l A c w hl hgc).mono fun e w' ⟨b, he, hg, h⟩ => ⟨b, by rw [he, gramE, hok]; rfl, hg, h hok⟩

theorem k_pasked_bad (l : List ClassV) (A : Option Addr) (c : Nat) (xs : List ItemV) (B : Option Addr) (d : Nat) (w : World) (hl : Rd w 4 encCl A l) (hgc : ∀ c ∈ l, GoodC w c) (hr : Rd w 3 encIt B xs) (hok : gramOk l = false) : Calls Tryz.prog 107 #[.slice A l.length c, .slice B xs.length d] w (fun e w' => ∃ b, e = .returned (.tuple #[.map (bif askIOk l xs then some b else none), .int .i64 (askIE l xs)]) ∧ Grow w w' ∧ (askIOk l xs = true → (mp ekS evC b (gramM l)).P w' ∧ w.heap.size ≤ b ∧ b < w'.heap.size)) := by
  refine enter_pure (args := [.slice A l.length c, .slice B xs.length d]) [sl (fun b => b < w.heap.size) 4 encCl A l, sl (fun b => b < w.heap.size) 3 encIt B xs] Tryz.func107 rfl (by rw [Tryz.ntmps107]; simp) (fun g hg => by simp at hg; rcases hg with rfl | rfl; exact ⟨hl, fun _ h => h⟩; exact ⟨hr, fun _ h => h⟩) ?_
  refine cj_seq ?_
  refine cj_regionG (gj_step (y_assign rfl) rfl rfl rfl (gj_step (y_assign rfl) rfl rfl rfl (gj_nil ?_)))
  refine ej_th (cj_seq ?_)
  refine cj_regionG ?_
  refine gj_step (y_move rfl) rfl rfl rfl (?_)
  refine gj_step (y_call Tryz.call133 rfl (fun w hp => k_gram_bad l A c w hp.rd (fun c hc => (hgc c hc).mono hp.below) hok)) rfl rfl rfl ?_
  refine gj_step (y_move rfl) rfl rfl rfl (gj_step (y_extract rfl rfl) rfl rfl rfl (gj_step (y_extract rfl rfl) rfl rfl rfl (gj_step (y_assign rfl) rfl rfl rfl (gj_step (y_assign rfl) rfl rfl rfl (?_)))))
  refine gj_nil ?_
  refine ej_th (cj_seq (cj_seq ?_))
  refine cj_regionG (gj_step (y_move rfl) rfl rfl rfl (gj_step (y_neq rfl rfl) rfl rfl rfl (gj_nil ?_)))
  refine ej_th ?_
  refine cj_cond rfl (fun h18 => ?_) (fun h18 => ?_)
  · have h18b := h18
    try simp only [sxb] at h18
    refine cj_seq ?_
    refine cj_regionG (gj_step (y_move rfl) rfl rfl rfl (gj_step (y_assign rfl) rfl rfl rfl (gj_step (y_assign rfl) rfl rfl rfl (gj_nil ?_))))
    refine ej_th (cj_ret (ej_then_ret ?_))
    have hg : askIOk l xs = false := by rw [askIOk, hok]; rfl
    exact ej_ret2 rfl Tryz.results107 rfl rfl (fun w' hp => ⟨0, by rw [hg, show askIE l xs = 10 from by simp [askIE, hok]]; rfl, hp.below, fun h => by rw [hg] at h; cases h⟩)
  · exact absurd h18 (by simp)

theorem k_pasked_ok (l : List ClassV) (A : Option Addr) (c : Nat) (xs : List ItemV) (B : Option Addr) (d : Nat) (w : World) (hl : Rd w 4 encCl A l) (hgc : ∀ c ∈ l, GoodC w c) (hr : Rd w 3 encIt B xs) (hxs : ∀ x ∈ xs, GoodI w x) (hok : gramOk l = true) : Calls Tryz.prog 107 #[.slice A l.length c, .slice B xs.length d] w (fun e w' => ∃ b, e = .returned (.tuple #[.map (bif askIOk l xs then some b else none), .int .i64 (askIE l xs)]) ∧ Grow w w' ∧ (askIOk l xs = true → (mp ekS evC b (gramM l)).P w' ∧ w.heap.size ≤ b ∧ b < w'.heap.size)) := by
  have hlen := hr.len
  refine enter_pure (args := [.slice A l.length c, .slice B xs.length d]) [sl (fun b => b < w.heap.size) 4 encCl A l, sl (fun b => b < w.heap.size) 3 encIt B xs] Tryz.func107 rfl (by rw [Tryz.ntmps107]; simp) (fun g hg => by simp at hg; rcases hg with rfl | rfl; exact ⟨hl, fun _ h => h⟩; exact ⟨hr, fun _ h => h⟩) ?_
  refine cj_seq ?_
  refine cj_regionG (gj_step (y_assign rfl) rfl rfl rfl (gj_step (y_assign rfl) rfl rfl rfl (gj_nil ?_)))
  refine ej_th (cj_seq (cj_region ?_))
  refine oj_step (y_move rfl) rfl rfl rfl ?_
  refine oj_call (X := {b : Nat // w.heap.size ≤ b}) (fun b => .tuple #[.map (some b.1), .int .i64 0]) (fun _ => []) (fun b => [mp ekS evC b.1 (gramM l)]) Tryz.call133 rfl (fun w hp => (k_gram_ok l A c w hp.rd (fun c hc => (hgc c hc).mono hp.below) hok).mono fun e w' ⟨b, he, hg, hm, h1, h2⟩ => ⟨⟨b, Nat.le_trans hp.size h1⟩, he, hg, by simp, by simp, fun g hg' => by simp only [List.mem_singleton] at hg'; subst hg'; exact ⟨hm, fun i hi => by have : i = b := hi; subst this; exact ⟨h1, h2, by simp⟩⟩⟩) rfl (fun b14 => ?_)
  obtain ⟨g14, hg14⟩ := b14
  dsimp only [List.cons_append, List.nil_append]
  refine oj_step (y_move rfl) rfl rfl rfl ?_
  refine oj_step (y_extract rfl rfl) rfl rfl rfl ?_
  refine oj_step (y_extract rfl rfl) rfl rfl rfl ?_
  refine oj_step (y_assign rfl) rfl rfl rfl ?_
  refine oj_step (y_assign rfl) rfl rfl rfl ?_
  refine oj_nil ?_
  refine ej_th (cj_seq (cj_seq ?_))
  refine cj_regionG (gj_step (y_move rfl) rfl rfl rfl (gj_step (y_neq rfl rfl) rfl rfl rfl (gj_nil ?_)))
  refine ej_th ?_
  refine cj_cond rfl (fun h18 => ?_) (fun h18 => ?_)
  · exact absurd h18 (by simp)
  · have h18b := h18
    try simp only [sxb] at h18
    refine cj_skip (ej_th (cj_seq (cj_seq ?_)))
    refine cj_regionG (gj_step (y_move rfl) rfl rfl rfl (gj_step (y_lenA Tryz.underlying172 rfl) rfl rfl rfl (gj_step (y_move rfl) rfl rfl rfl (gj_nil ?_))))
    refine ej_th (cj_block ?_)
    refine cj_lpic (X := Nat) [(6, _), (20, _), (21, _)] (fun k => k ≤ xs.length ∧ (xs.drop k).all (itemOk l) = xs.all (itemOk l)) (fun k => [(22, .int .i64 k)]) (fun k => xs.length - k) 0 (⟨Nat.zero_le _, rfl⟩) ⟨rfl, rfl, rfl, rfl, trivial⟩ ?_
    rintro k ⟨hk, hal⟩
    dsimp only [List.cons_append, List.nil_append]
    refine cj_seq ?_
    refine cj_regionG (gj_step (y_lss rfl rfl) rfl rfl rfl (gj_nil ?_))
    refine ej_th (cj_seq ?_)
    refine cj_cond rfl (fun h23 => ?_) (fun h23 => ?_)
    · have h23b := h23
      try simp only [sxb] at h23
      obtain ⟨x, hx⟩ : ∃ x, xs[k]? = some x := ⟨_, List.getElem?_eq_getElem (by omega)⟩
      rw [all_drop _ xs k x hx] at hal
      refine cj_skip (ej_th (cj_seq (cj_block (cj_seq (cj_region ?_)))))
      refine oj_step (y_ixR (reads_sl) Tryz.underlying172 Tryz.sizeOf174 rfl rfl (⟨by omega, by omega⟩)) rfl rfl rfl ?_
      refine oj_step (y_ldW (reads_sl) Tryz.isAgg174 Tryz.sizeOf174 rfl (hx) (fun _ => rfl)) rfl rfl rfl ?_
      refine oj_alloc Tryz.zeroValue174 rfl rfl (fun b9 => ?_)
      refine oj_store rfl rfl rfl rfl Tryz.sizeOf174 rfl ?_
      refine oj_nil ?_
      refine ej_th (cj_seq ?_)
      refine cj_regionG ?_
      refine gj_step (y_move rfl) rfl rfl rfl (gj_step (y_loadN Tryz.isAgg174 Tryz.sizeOf174 rfl) rfl rfl rfl (?_))
      refine gj_step (y_call Tryz.call134 rfl (fun w hp => (k_fitsA (hxs x (List.mem_of_getElem? hx)) w g14 (gramM l) 1 24 hp.below (hp.mpS (K := ByteArray) (V := ClassV)).1 (hp.mpS (K := ByteArray) (V := ClassV) (b := g14)).2 (fun p hm => (hgc _ (gramM_mem hm)).mono hp.below) ⟨by omega, by omega⟩ ⟨by omega, by omega⟩))) rfl rfl rfl ?_
      refine gj_step (y_move rfl) rfl rfl rfl (gj_step (y_extract rfl rfl) rfl rfl rfl (gj_step (y_extract rfl rfl) rfl rfl rfl (gj_step (y_assign rfl) rfl rfl rfl (gj_step (y_assign rfl) rfl rfl rfl (?_)))))
      refine gj_nil ?_
      refine ej_th (cj_seq ?_)
      refine cj_regionG (gj_step (y_move rfl) rfl rfl rfl (gj_step (y_not rfl) rfl rfl rfl (gj_nil ?_)))
      refine ej_th ?_
      refine cj_cond rfl (fun h33 => ?_) (fun h33 => ?_)
      · have h33b := h33
        try simp only [sxb] at h33
        have hio : itemOk l x = false := not_t h33b
        refine cj_seq ?_
        refine cj_regionG (gj_step (y_assign rfl) rfl rfl rfl (gj_step (y_assign rfl) rfl rfl rfl (gj_nil ?_)))
        refine ej_th (cj_ret (ej_blk_ret (ej_then_ret (ej_then_ret (ej_blk_ret (ej_then_ret ?_))))))
        have hg : askIOk l xs = false := by rw [askIOk, hok, ← hal, hio]; rfl
        exact ej_ret2 rfl Tryz.results107 rfl rfl (fun w' hp => ⟨0, by rw [hg, show askIE l xs = 11 from by simp [askIE, hok, ← hal, hio]]; rfl, hp.below, fun h => by rw [hg] at h; cases h⟩)
      · have h33b := h33
        try simp only [sxb] at h33
        have hio : itemOk l x = true := not_f h33b
        refine cj_skip (ej_blk (ej_th ?_))
        refine cj_regionG (gj_step (y_add rfl rfl (by omega)) rfl rfl rfl (gj_step (y_move rfl) rfl rfl rfl (gj_nil ?_)))
        exact ej_nx (k + 1) (by omega) ⟨by omega, by rw [← hal, hio, Bool.true_and]⟩ ⟨rfl, rfl, rfl, rfl, trivial⟩
    · have h23b := h23
      try simp only [sxb] at h23
      refine cj_exit (ej_then_exit (ej_then_exit (ej_blk_hit (ej_th (cj_seq ?_)))))
      refine cj_regionG (gj_step (y_move rfl) rfl rfl rfl (gj_step (y_assign rfl) rfl rfl rfl (gj_step (y_assign rfl) rfl rfl rfl (gj_nil ?_))))
      refine ej_th (cj_ret ?_)
      have ha : xs.all (itemOk l) = true := by rw [← hal, List.drop_of_length_le (by omega)]; rfl
      have hg : askIOk l xs = true := by rw [askIOk, hok, ha]; rfl
      exact ej_ret2 rfl Tryz.results107 rfl rfl (fun w' hp => ⟨g14, by rw [hg, show askIE l xs = 0 by simp [askIE, hok, ha]]; rfl, hp.below, fun _ => ⟨(hp.mpS (K := ByteArray) (V := ClassV)).1, hg14, (hp.mpS (K := ByteArray) (V := ClassV) (b := g14)).2⟩⟩)

theorem k_pasked (l : List ClassV) (A : Option Addr) (c : Nat) (xs : List ItemV) (B : Option Addr) (d : Nat) (w : World) (hl : Rd w 4 encCl A l) (hgc : ∀ c ∈ l, GoodC w c) (hr : Rd w 3 encIt B xs) (hxs : ∀ x ∈ xs, GoodI w x) : Calls Tryz.prog 107 #[.slice A l.length c, .slice B xs.length d] w (fun e w' => ∃ b, e = .returned (.tuple #[.map (bif askIOk l xs then some b else none), .int .i64 (askIE l xs)]) ∧ Grow w w' ∧ (askIOk l xs = true → (mp ekS evC b (gramM l)).P w' ∧ w.heap.size ≤ b ∧ b < w'.heap.size)) := by
  cases hok : gramOk l with
  | false => exact k_pasked_bad l A c xs B d w hl hgc hr hok
  | true => exact k_pasked_ok l A c xs B d w hl hgc hr hxs hok

end Go.Proofs.YtppfniekcgnmjaaGreat.Pl
namespace Go.Proofs.YtppfniekcgnmjaaGreat.Pl
open Go.Sx Go.RowKit

abbrev bls (us : List Bool) : List Value := us.map (fun x => Value.bool x)
theorem bls_set (us : List Bool) (k : Nat) (v : Bool) : (bls us).set k (.bool v) = bls (us.set k v) := (List.map_set).symm
theorem bls_get {us : List Bool} {k : Nat} {u : Bool} (h : us[k]? = some u) : (bls us)[k]? = some (.bool u) := by rw [List.getElem?_map, h]; rfl
theorem bls_len (us : List Bool) : (bls us).length = us.length := List.length_map ..
/-- one part's turn: the others that are left are tried, one after the other; 'f': the parts behind it -/
def scanA (f : List Bool → Bool × List Bool) : List Bool → Nat → List Bool → Bool × List Bool
  | [], _, us => (false, us)
  | c :: cs, k, us => if us.getD k false || !c then scanA f cs (k + 1) us else if (f (us.set k true)).1 then (true, (f (us.set k true)).2) else scanA f cs (k + 1) ((f (us.set k true)).2.set k false)
def asg : List (List Bool) → List Bool → Bool × List Bool
  | [], us => (true, us)
  | row :: rest, us => scanA (fun u => asg rest u) row 0 us
theorem scanA_len (f : List Bool → Bool × List Bool) (hf : ∀ u, (f u).2.length = u.length) : ∀ (cs : List Bool) (k : Nat) (us : List Bool), (scanA f cs k us).2.length = us.length
  | [], _, _ => rfl
  | c :: cs, k, us => by
    rw [scanA]
    split
    · exact scanA_len f hf cs _ _
    · split
      · rw [hf]; simp
      · rw [scanA_len f hf cs _ _]; simp [hf]
theorem asg_len : ∀ (rows : List (List Bool)) (us : List Bool), (asg rows us).2.length = us.length
  | [], _ => rfl
  | _ :: rest, us => by rw [asg]; exact scanA_len _ (asg_len rest) _ _ _
theorem scanA_drop (f : List Bool → Bool × List Bool) (row : List Bool) (k : Nat) (c u : Bool) (us : List Bool) (h : row[k]? = some c) (hu : us[k]? = some u) :
    scanA f (row.drop k) k us = if u || !c then scanA f (row.drop (k + 1)) (k + 1) us else if (f (us.set k true)).1 then (true, (f (us.set k true)).2) else scanA f (row.drop (k + 1)) (k + 1) ((f (us.set k true)).2.set k false) := by
  obtain ⟨h1, h2⟩ := List.getElem?_eq_some_iff.1 h
  rw [List.drop_eq_getElem_cons h1, h2, scanA, List.getD_eq_getElem?_getD, hu]; rfl
def saysCov : List ByteArray → List ByteArray → Bool
  | s :: ss, t :: ts => !((!(s == ⟨#[]⟩)) && !(s == t)) && saysCov ss ts
  | _, _ => true
theorem saysCov_drop (ss ts : List ByteArray) (k : Nat) (s t : ByteArray) (hs : ss[k]? = some s) (ht : ts[k]? = some t) : saysCov (ss.drop k) (ts.drop k) = (!((!(s == ⟨#[]⟩)) && !(s == t)) && saysCov (ss.drop (k + 1)) (ts.drop (k + 1))) := by
  obtain ⟨h1, h2⟩ := List.getElem?_eq_some_iff.1 hs
  obtain ⟨h3, h4⟩ := List.getElem?_eq_some_iff.1 ht
  rw [List.drop_eq_getElem_cons h1, h2, List.drop_eq_getElem_cons h3, h4, saysCov]
mutual
def covI : ItemV → ItemV → Bool
  | .mk cls _ _ says _ _ parts, b => decide (cls = b.cls) && (saysCov says b.says && (asg (covRows parts b.parts) (List.replicate b.parts.length false)).1)
def covRows : List ItemV → List ItemV → List (List Bool)
  | [], _ => []
  | p :: l, bs => bs.map (fun q => covI p q) :: covRows l bs
end
theorem covRows_drop (l bs : List ItemV) (i : Nat) (p : ItemV) (h : l[i]? = some p) : covRows (l.drop i) bs = bs.map (fun q => covI p q) :: covRows (l.drop (i + 1)) bs := by
  obtain ⟨h1, h2⟩ := List.getElem?_eq_some_iff.1 h
  rw [List.drop_eq_getElem_cons h1, h2, covRows]
theorem covI_cls {a b : ItemV} (h : covI a b = true) : a.cls = b.cls := by
  obtain ⟨cls, As, cs, says, Ap, cp, parts⟩ := a
  unfold covI at h
  simp only [Bool.and_eq_true, decide_eq_true_eq] at h
  exact h.1
/-- the classes of an item and of its parts are known, and as much is said of each as its class has traits -/
inductive OkG (g : List (ByteArray × ClassV)) : ItemV → Prop
  | mk {x : ItemV} (h : ∃ c, getL g x.cls = some c ∧ x.says.length = c.traits.length) (hn : x.parts.length ≤ 24) (hr : ∀ p ∈ x.parts, OkG g p) : OkG g x
/-- what the search has at hand -/
structure FindW (w0 w : World) (a b : ItemV) (xa xb xu x7 x8 : Nat) : Prop where
  hg : Grow w0 w
  hu : w0.heap.size ≤ xu
  ha : w.heap[xa]? = some (cellsB 174 [.string a.cls, .slice a.As a.says.length a.cs, .slice a.Ap a.parts.length a.cp])
  hb : w.heap[xb]? = some (cellsB 174 [.string b.cls, .slice b.As b.says.length b.cs, .slice b.Ap b.parts.length b.cp])
  h7 : w.heap[x7]? = some (cellsB 99130 [.slice (some ⟨xu, 0, none⟩) b.parts.length b.parts.length])
  h8 : w.heap[x8]? = some (cellsB 152 [.func (.func 9992) #[] #[.pointer (some ⟨xa, 0, none⟩), .pointer (some ⟨xb, 0, none⟩), .pointer (some ⟨x7, 0, none⟩), .pointer (some ⟨x8, 0, none⟩)]])
  na : xa ≠ xu
  nb : xb ≠ xu
  n7 : x7 ≠ xu
  n8 : x8 ≠ xu
theorem OkG.says {g : List (ByteArray × ClassV)} {a b : ItemV} (ha : OkG g a) (hb : OkG g b) (h : a.cls = b.cls) : a.says.length = b.says.length := by
  cases ha with
  | mk h1 _ _ =>
    cases hb with
    | mk h2 _ _ =>
      obtain ⟨c, h3, h4⟩ := h1
      obtain ⟨d, h5, h6⟩ := h2
      rw [h, h5] at h3
      injection h3 with h3
      rw [h4, h6, h3]
theorem OkG.few {g : List (ByteArray × ClassV)} {a : ItemV} (ha : OkG g a) : a.parts.length ≤ 24 := by cases ha; assumption
theorem OkG.pt {g : List (ByteArray × ClassV)} {a : ItemV} (ha : OkG g a) : ∀ p ∈ a.parts, OkG g p := by cases ha; assumption
theorem covI_eq (a b : ItemV) : covI a b = (decide (a.cls = b.cls) && (saysCov a.says b.says && (asg (covRows a.parts b.parts) (List.replicate b.parts.length false)).1)) := by
  obtain ⟨cls, As, cs, says, Ap, cp, parts⟩ := a
  unfold covI
  rfl
theorem blk_ne {w : World} {x y e f : Nat} {cs ds : List Value} (h1 : w.heap[x]? = some (cellsB e cs)) (h2 : w.heap[y]? = some (cellsB f ds)) (hef : e ≠ f) : x ≠ y := by
  rintro rfl
  rw [h1] at h2
  injection h2 with h2
  injection h2 with _ h3
  exact hef h3
mutual
theorem fitsI_ok (g : List (ByteArray × ClassV)) (hm : ∀ p ∈ g, p.2.most ≤ 6) : ∀ (x : ItemV) (deep most n : Int), fitsI g x deep most = some n → OkG g x
  | .mk cls As cs says Ap cp parts, deep, most, n, h => by
    unfold fitsI at h
    split at h
    · cases h
    · rename_i c hc
      split at h
      · cases h
      · rename_i hn
        split at h
        · obtain ⟨p, hp, he⟩ := getL_mem hc
          have h6 := hm p hp
          rw [he] at h6
          exact .mk ⟨c, hc, (by show says.length = _; omega)⟩ (by show parts.length ≤ 24; omega) (fitsL_ok g hm _ parts deep most 1 n h)
        · cases h
theorem fitsL_ok (g : List (ByteArray × ClassV)) (hm : ∀ p ∈ g, p.2.most ≤ 6) (cp : List ByteArray) : ∀ (l : List ItemV) (deep most many n : Int), fitsL g cp l deep most many = some n → ∀ p ∈ l, OkG g p
  | [], _, _, _, _, _ => fun p hp => by cases hp
  | q :: l, deep, most, many, n, h => by
    unfold fitsL at h
    split at h
    · split at h
      · cases h
      · rename_i m hm2
        intro p hp
        rcases List.mem_cons.1 hp with hp | hp
        · rw [hp]; exact fitsI_ok g hm q _ _ m hm2
        · exact fitsL_ok g hm cp l deep most (many + m) n h p hp
    · cases h
end
theorem gram_most {l : List ClassV} (h : gramOk l = true) : ∀ p ∈ gramM l, p.2.most ≤ 6 := by
  intro p hp
  have h1 := gramM_mem hp
  simp only [gramOk, Bool.and_eq_true, List.all_eq_true] at h
  have h2 := h.2.2 p.2 h1
  simp only [classOk, Bool.and_eq_true] at h2
  have h3 := h2.1
  unfold class1 at h3
  simp only [Bool.not_eq_true', Bool.or_eq_false_iff, Bool.not_eq_false', Bool.and_eq_true, decide_eq_true_eq] at h3
  omega
theorem askIE_no {l : List ClassV} {xs : List ItemV} (h : (askIE l xs != 0) = true) : askIOk l xs = false := by
  unfold askIE at h
  unfold askIOk
  cases h1 : gramOk l <;> cases h2 : xs.all (itemOk l) <;> simp [h1, h2] at h ⊢
theorem askIE_ok {l : List ClassV} {xs : List ItemV} (h : (askIE l xs != 0) = false) : askIOk l xs = true := by
  unfold askIE at h
  unfold askIOk
  cases h1 : gramOk l <;> cases h2 : xs.all (itemOk l) <;> simp [h1, h2] at h ⊢
theorem ask_okG {l : List ClassV} {xs : List ItemV} (h : askIOk l xs = true) : ∀ x ∈ xs, OkG (gramM l) x := by
  intro x hx
  simp only [askIOk, Bool.and_eq_true, List.all_eq_true] at h
  have h1 := h.2 x hx
  unfold itemOk at h1
  obtain ⟨n, hn⟩ := Option.isSome_iff_exists.1 h1
  exact fitsI_ok _ (gram_most h.1) x 1 24 n hn
def CovT (l : List ClassV) (a b : ItemV) : Bool := askIOk l [a, b] && covI a b
end Go.Proofs.YtppfniekcgnmjaaGreat.Pl
namespace Go.Proofs.YtppfniekcgnmjaaGreat.Pl
open Go.Sx Go.RowKit

/-- a description, wherever it lies -/
inductive IT where
  | mk (cls : ByteArray) (says : List ByteArray) (parts : List IT)
namespace IT
def cls : IT → ByteArray | mk c _ _ => c
def says : IT → List ByteArray | mk _ s _ => s
def parts : IT → List IT | mk _ _ p => p
end IT
instance : Inhabited IT := ⟨.mk ⟨#[]⟩ [] []⟩
mutual
def ItemV.pl : ItemV → IT
  | .mk cls _ _ says _ _ parts => .mk cls says (plL parts)
def plL : List ItemV → List IT
  | [] => []
  | p :: l => p.pl :: plL l
end
theorem plL_map : ∀ l : List ItemV, plL l = l.map ItemV.pl
  | [] => rfl
  | p :: l => by rw [plL, plL_map l]; rfl
theorem pl_eq (x : ItemV) : x.pl = .mk x.cls x.says (x.parts.map ItemV.pl) := by
  obtain ⟨cls, As, cs, says, Ap, cp, parts⟩ := x
  rw [ItemV.pl, plL_map]; rfl
theorem pl_cls (x : ItemV) : x.pl.cls = x.cls := by rw [pl_eq]; rfl
theorem pl_says (x : ItemV) : x.pl.says = x.says := by rw [pl_eq]; rfl
theorem pl_parts (x : ItemV) : x.pl.parts = x.parts.map ItemV.pl := by rw [pl_eq]; rfl

theorem ow_shape {e c sz : Nat} {α : Type} {enc : α → List Value} {A : Option Addr} {xs : List α} {w : World} (h : (ow e sz enc A c xs).P w) (hne : xs ≠ []) : ∃ g, A = some ⟨g, 0, none⟩ ∧ xs.length ≤ c ∧ g < w.heap.size := by
  have hP : w.ownsRow 0 e sz (.slice A xs.length c) xs.length (xs.flatMap enc) := h
  rcases hP.2 with ⟨h2, h3⟩ | ⟨g, cap, cur, hv, h3, h4, h5, _⟩
  · exact absurd (List.eq_nil_of_length_eq_zero h3) hne
  · injection hv with hA _ hc
    exact ⟨g, hA, by omega, (Array.getElem?_eq_some_iff.1 h4).1⟩
theorem ow_lt {e c sz : Nat} {α : Type} {enc : α → List Value} {A : Option Addr} {xs : List α} {w : World} (h : (ow e sz enc A c xs).P w) (hne : xs ≠ []) : ∀ b, (ow e sz enc A c xs).fp b → b < w.heap.size := by
  obtain ⟨g, rfl, _, hg⟩ := ow_shape h hne
  intro b hb
  have : some g = some b := hb
  injection this with this
  omega

/-! ### Tokens -/
abbrev tOpen : ByteArray := ⟨#[40]⟩
abbrev tClose : ByteArray := ⟨#[41]⟩
abbrev tSemi : ByteArray := ⟨#[59]⟩
abbrev tEq : ByteArray := ⟨#[61]⟩
abbrev tBl : ByteArray := ⟨#[32]⟩
def saidTok : List TraitV → List ByteArray → List ByteArray
  | t :: ts, s :: ss => if s == ⟨#[]⟩ then saidTok ts ss else (t.name ++ tEq ++ s) :: saidTok ts ss
  | _, _ => []
theorem saidTok_drop (ts : List TraitV) (ss : List ByteArray) (k : Nat) (t : TraitV) (s : ByteArray) (ht : ts[k]? = some t) (hs : ss[k]? = some s) :
    saidTok (ts.drop k) (ss.drop k) = if s == ⟨#[]⟩ then saidTok (ts.drop (k + 1)) (ss.drop (k + 1)) else (t.name ++ tEq ++ s) :: saidTok (ts.drop (k + 1)) (ss.drop (k + 1)) := by
  obtain ⟨h1, h2⟩ := List.getElem?_eq_some_iff.1 ht
  obtain ⟨h3, h4⟩ := List.getElem?_eq_some_iff.1 hs
  rw [List.drop_eq_getElem_cons h1, h2, List.drop_eq_getElem_cons h3, h4, saidTok]
theorem saidTok_len : ∀ (ts : List TraitV) (ss : List ByteArray), (saidTok ts ss).length ≤ ts.length
  | [], _ => by simp [saidTok]
  | _ :: _, [] => by simp [saidTok]
  | t :: ts, s :: ss => by
    have := saidTok_len ts ss
    rw [saidTok]; split
    · simp only [List.length_cons]; omega
    · simp only [List.length_cons]; omega
abbrev traitsOf (g : List (ByteArray × ClassV)) (s : ByteArray) : List TraitV := ((getL g s).getD zC).traits
mutual
def tokT (g : List (ByteArray × ClassV)) : IT → List ByteArray
  | .mk cls says parts => (cls :: saidTok (traitsOf g cls) says) ++ (tokP g true parts ++ (if parts.length = 0 then [] else [tClose]))
def tokP (g : List (ByteArray × ClassV)) : Bool → List IT → List ByteArray
  | _, [] => []
  | b, p :: l => (if b then tOpen else tSemi) :: (tokT g p ++ tokP g false l)
end
theorem tokT_eq (g : List (ByteArray × ClassV)) (x : IT) : tokT g x = (x.cls :: saidTok (traitsOf g x.cls) x.says) ++ (tokP g true x.parts ++ (if x.parts.length = 0 then [] else [tClose])) := by
  obtain ⟨cls, says, parts⟩ := x; rw [tokT]; rfl
theorem tokP_drop (g : List (ByteArray × ClassV)) (l : List IT) (k : Nat) (p : IT) (h : l[k]? = some p) : tokP g (decide (k = 0)) (l.drop k) = (if k = 0 then tOpen else tSemi) :: (tokT g p ++ tokP g (decide (k + 1 = 0)) (l.drop (k + 1))) := by
  obtain ⟨h1, h2⟩ := List.getElem?_eq_some_iff.1 h
  rw [List.drop_eq_getElem_cons h1, h2, tokP]
  simp
def jn (xs : List ByteArray) : ByteArray := ⟨(([32] : List UInt8).intercalate (xs.map (fun s => s.data.toList))).toArray⟩
def txtT (g : List (ByteArray × ClassV)) (x : IT) : ByteArray := jn (tokT g x)

/-! ### Counting -/
def saidN (ss : List ByteArray) : Int := (ss.map (fun s => if s == (⟨#[]⟩ : ByteArray) then (0 : Int) else 1)).sum
mutual
def cntT : IT → Int
  | .mk _ _ parts => 1 + cntL parts
def cntL : List IT → Int
  | [] => 0
  | p :: l => cntT p + cntL l
end
mutual
def sdT : IT → Int
  | .mk _ says parts => saidN says + sdL parts
def sdL : List IT → Int
  | [] => 0
  | p :: l => sdT p + sdL l
end
mutual
/-- all items of a description, in the order of the text -/
def ItemV.all : ItemV → List ItemV
  | .mk cls As cs says Ap cp parts => .mk cls As cs says Ap cp parts :: allL parts
def allL : List ItemV → List ItemV
  | [] => []
  | p :: l => p.all ++ allL l
end
theorem all_eq (x : ItemV) : x.all = x :: allL x.parts := by
  obtain ⟨cls, As, cs, says, Ap, cp, parts⟩ := x; rw [ItemV.all]; rfl
theorem cntT_eq (x : IT) : cntT x = 1 + cntL x.parts := by obtain ⟨_, _, _⟩ := x; rw [cntT]; rfl
theorem sdT_eq (x : IT) : sdT x = saidN x.says + sdL x.parts := by obtain ⟨_, _, _⟩ := x; rw [sdT]; rfl
mutual
theorem all_len : ∀ x : ItemV, (x.all.length : Int) = cntT x.pl
  | .mk cls As cs says Ap cp parts => by
    rw [ItemV.all, ItemV.pl, cntT, List.length_cons, ← allL_len parts]; omega
theorem allL_len : ∀ l : List ItemV, ((allL l).length : Int) = cntL (plL l)
  | [] => rfl
  | p :: l => by rw [allL, plL, cntL, List.length_append, ← all_len p, ← allL_len l]; omega
end
def sdAll (l : List ItemV) : Int := (l.map (fun x => saidN x.says)).sum
theorem sdAll_append (a b : List ItemV) : sdAll (a ++ b) = sdAll a + sdAll b := by
  induction a with
  | nil => simp [sdAll]
  | cons x a ih => unfold sdAll at ih ⊢; rw [List.cons_append, List.map_cons, List.sum_cons, ih, List.map_cons, List.sum_cons]; omega
mutual
theorem all_said : ∀ x : ItemV, sdAll x.all = sdT x.pl
  | .mk cls As cs says Ap cp parts => by
    rw [ItemV.all, ItemV.pl, sdT, ← allL_said parts]; rfl
theorem allL_said : ∀ l : List ItemV, sdAll (allL l) = sdL (plL l)
  | [] => rfl
  | p :: l => by rw [allL, plL, sdL, sdAll_append, all_said p, allL_said l]
end

/-! ### The sorted form -/
section
variable {α : Type} (lt : α → α → Bool)
/-- an item goes to the left as long as it comes before the one on its left -/
def insAt (P : List α) (x : α) : Nat → List α
  | 0 => x :: P
  | j + 1 => match P[j]? with
    | some y => if lt x y then insAt P x j else P.take (j + 1) ++ x :: P.drop (j + 1)
    | none => P.take (j + 1) ++ x :: P.drop (j + 1)
def isort : List α → List α → List α
  | P, [] => P
  | P, x :: l => isort (insAt lt P x P.length) l
theorem insAt_len (P : List α) (x : α) : ∀ j, j ≤ P.length → (insAt lt P x j).length = P.length + 1
  | 0, _ => rfl
  | j + 1, h => by
    have h1 : P[j]? = some P[j] := List.getElem?_eq_getElem (by omega)
    rw [insAt, h1]
    simp only
    split
    · exact insAt_len P x j (by omega)
    · simp; omega
theorem insAt_mem (P : List α) (x y : α) : ∀ j, j ≤ P.length → (y ∈ insAt lt P x j ↔ y = x ∨ y ∈ P)
  | 0, _ => by simp [insAt]
  | j + 1, h => by
    have h1 : P[j]? = some P[j] := List.getElem?_eq_getElem (by omega)
    rw [insAt, h1]
    simp only
    split
    · exact insAt_mem P x y j (by omega)
    · rw [List.mem_append, List.mem_cons]
      have : y ∈ P ↔ y ∈ P.take (j + 1) ∨ y ∈ P.drop (j + 1) := by rw [← List.mem_append, List.take_append_drop]
      rw [this]
      constructor
      · rintro (h | h | h)
        · exact .inr (.inl h)
        · exact .inl h
        · exact .inr (.inr h)
      · rintro (h | h | h)
        · exact .inr (.inl h)
        · exact .inl h
        · exact .inr (.inr h)
theorem isort_len : ∀ (l P : List α), (isort lt P l).length = P.length + l.length
  | [], P => by simp [isort]
  | x :: l, P => by rw [isort, isort_len l, insAt_len lt P x _ (Nat.le_refl _), List.length_cons]; omega
theorem isort_mem : ∀ (l P : List α) (y : α), y ∈ isort lt P l ↔ y ∈ P ∨ y ∈ l
  | [], P, y => by simp [isort]
  | x :: l, P, y => by
    rw [isort, isort_mem l, insAt_mem lt P x y _ (Nat.le_refl _), List.mem_cons]
    constructor
    · rintro ((h | h) | h)
      · exact .inr (.inl h)
      · exact .inl h
      · exact .inr (.inr h)
    · rintro (h | h | h)
      · exact .inl (.inr h)
      · exact .inl (.inl h)
      · exact .inr h
end
theorem insAt_map {α β : Type} (f : α → β) (lt : β → β → Bool) (P : List α) (x : α) : ∀ j, (insAt (fun a b => lt (f a) (f b)) P x j).map f = insAt lt (P.map f) (f x) j
  | 0 => rfl
  | j + 1 => by
    rw [insAt, insAt, List.getElem?_map]
    cases h : P[j]? with
    | none => simp
    | some y =>
      simp only [Option.map_some]
      split
      · exact insAt_map f lt P x j
      · simp
theorem isort_map {α β : Type} (f : α → β) (lt : β → β → Bool) : ∀ (l P : List α), (isort (fun a b => lt (f a) (f b)) P l).map f = isort lt (P.map f) (l.map f)
  | [], P => rfl
  | x :: l, P => by rw [isort, isort_map f lt l, insAt_map, List.map_cons, isort, List.length_map]
def ltT (g : List (ByteArray × ClassV)) (a b : IT) : Bool := ltS (txtT g a) (txtT g b)
mutual
def sortT (g : List (ByteArray × ClassV)) : IT → IT
  | .mk cls says parts => .mk cls says (isort (ltT g) [] (sortL g parts))
def sortL (g : List (ByteArray × ClassV)) : List IT → List IT
  | [] => []
  | p :: l => sortT g p :: sortL g l
end
theorem sortL_map (g : List (ByteArray × ClassV)) : ∀ l : List IT, sortL g l = l.map (sortT g)
  | [] => rfl
  | p :: l => by rw [sortL, sortL_map g l]; rfl
theorem sortT_eq (g : List (ByteArray × ClassV)) (x : IT) : sortT g x = .mk x.cls x.says (isort (ltT g) [] (x.parts.map (sortT g))) := by
  obtain ⟨cls, says, parts⟩ := x; rw [sortT, sortL_map]; rfl

/-! ### What a description that fits has -/
inductive OkT (g : List (ByteArray × ClassV)) : IT → Prop
  | mk {x : IT} (h : ∃ c, getL g x.cls = some c ∧ x.says.length = c.traits.length ∧ c.traits.length ≤ 8 ∧ ∀ t ∈ c.traits, t.name.size ≤ 16) (hc : x.cls.size ≤ 16) (hs : ∀ s ∈ x.says, s.size ≤ 16) (hn : x.parts.length ≤ 6) (hr : ∀ p ∈ x.parts, OkT g p) : OkT g x
def PrnT (l : List ClassV) (x : ItemV) : ByteArray := bif askIOk l [x] then txtT (gramM l) x.pl else ⟨#[]⟩
def CntI (l : List ClassV) (x : ItemV) : Int := bif askIOk l [x] then cntT x.pl else 0
def CntS (l : List ClassV) (x : ItemV) : Int := bif askIOk l [x] then sdT x.pl else 0
abbrev zIT : IT := .mk ⟨#[]⟩ [] []
def SrtT (l : List ClassV) (x : ItemV) : IT := bif askIOk l [x] then sortT (gramM l) x.pl else zIT
end Go.Proofs.YtppfniekcgnmjaaGreat.Pl
namespace Go.Proofs.YtppfniekcgnmjaaGreat.Pl
open Go.Sx Go.RowKit

theorem isW_size {s : ByteArray} (h : isW s = true) : s.size ≤ 16 := by
  simp only [isW, Bool.and_eq_true, decide_eq_true_eq] at h; omega
theorem isW_ne {s : ByteArray} (h : isW s = true) : 1 ≤ s.size := by
  simp only [isW, Bool.and_eq_true, decide_eq_true_eq] at h; omega
theorem wordsG_all : ∀ (pre l : List ByteArray), wordsG pre l = true → ∀ s ∈ l, isW s = true
  | _, [], _ => by simp
  | pre, s :: l, h => by
    simp only [wordsG, Bool.and_eq_true] at h
    intro t ht
    rcases List.mem_cons.1 ht with rfl | ht
    · exact h.1.1
    · exact wordsG_all _ l h.2 t ht
theorem words_all {l : List ByteArray} (h : wordsB l = true) : ∀ s ∈ l, isW s = true := wordsG_all [] l h
theorem hasW_mem {l : List ByteArray} {s : ByteArray} (h : hasW l s = true) : s ∈ l := by
  simp only [hasW, List.any_eq_true, decide_eq_true_eq] at h
  obtain ⟨q, hq, rfl⟩ := h; exact hq
theorem putL_key {m : List (ByteArray × ClassV)} {k : ByteArray} {c : ClassV} (hm : ∀ p ∈ m, p.1 = p.2.name) (hk : k = c.name) : ∀ p ∈ putL m k c, p.1 = p.2.name := by
  induction m with
  | nil => intro p hp; simp only [putL, List.mem_singleton] at hp; rw [hp]; exact hk
  | cons q m ih =>
    intro p hp
    rw [putL] at hp
    split at hp
    · rcases List.mem_cons.1 hp with h | h
      · rw [h]; exact hk
      · exact hm p (List.mem_cons_of_mem _ h)
    · rcases List.mem_cons.1 hp with h | h
      · rw [h]; exact hm q (List.mem_cons_self ..)
      · exact ih (fun p hp => hm p (List.mem_cons_of_mem _ hp)) p h
theorem putAll_key : ∀ (l : List ClassV) (m : List (ByteArray × ClassV)), (∀ p ∈ m, p.1 = p.2.name) → ∀ p ∈ putAll m l, p.1 = p.2.name
  | [], _, hm => hm
  | _ :: l, _, hm => putAll_key l _ (putL_key hm rfl)
theorem getL_mem' {g : List (ByteArray × ClassV)} {s : ByteArray} {c : ClassV} (h : getL g s = some c) : (s, c) ∈ g := by
  induction g with
  | nil => cases h
  | cons p g ih =>
    rw [getL] at h
    split at h
    · rename_i h1
      injection h with h
      rw [← h, ← h1]; exact List.mem_cons_self ..
    · exact List.mem_cons_of_mem _ (ih h)
theorem gram_get {l : List ClassV} {s : ByteArray} {c : ClassV} (h : getL (gramM l) s = some c) : c ∈ l ∧ c.name = s := by
  have h1 := getL_mem' h
  exact ⟨gramM_mem h1, (putAll_key l [] (by simp) _ h1).symm⟩
/-- what a grammar that is right has -/
structure ClsOk (c : ClassV) : Prop where
  name : isW c.name = true
  few : c.traits.length ≤ 8
  tn : ∀ t ∈ c.traits, isW t.name = true
  tv : ∀ t ∈ c.traits, ∀ s ∈ t.vals, isW s = true
  most : 0 ≤ c.most ∧ c.most ≤ 6
theorem gram_cls {l : List ClassV} (h : gramOk l = true) : ∀ c ∈ l, ClsOk c := by
  intro c hc
  simp only [gramOk, Bool.and_eq_true, List.all_eq_true] at h
  have h1 := h.2.2 c hc
  have h2 := words_all h.2.1 c.name (List.mem_map.2 ⟨c, hc, rfl⟩)
  simp only [classOk, Bool.and_eq_true, List.all_eq_true] at h1
  have h3 := class1_tr h1.1
  refine ⟨h2, by omega, fun t ht => words_all h1.2.2.2 t.name (List.mem_map.2 ⟨t, ht, rfl⟩), fun t ht s hs => ?_, ?_⟩
  · have h4 := h1.2.2.1 t ht
    unfold traitOk at h4
    simp only [Bool.not_eq_true', Bool.or_eq_false_iff, Bool.not_eq_false'] at h4
    exact words_all h4.2 s hs
  · have h4 := h1.1
    unfold class1 at h4
    simp only [Bool.not_eq_true', Bool.or_eq_false_iff, Bool.not_eq_false', Bool.and_eq_true, decide_eq_true_eq] at h4
    omega
theorem says_sz : ∀ (ts : List TraitV) (ss : List ByteArray), (∀ t ∈ ts, ∀ s ∈ t.vals, isW s = true) → ss.length ≤ ts.length → saysOk ts ss = true → ∀ s ∈ ss, s = ⟨#[]⟩ ∨ isW s = true
  | _, [], _, _, _ => by simp
  | [], _ :: _, _, h, _ => by simp at h
  | t :: ts, s :: ss, hv, hl, h => by
    simp only [saysOk, Bool.and_eq_true] at h
    intro u hu
    rcases List.mem_cons.1 hu with rfl | hu
    · have h1 := h.1
      unfold saysOne at h1
      simp only [Bool.not_eq_true', Bool.or_eq_false_iff, Bool.and_eq_false_iff, Bool.not_eq_false'] at h1
      rcases h1.2 with h2 | h2
      · exact .inl (bytes_eq (by simpa using h2))
      · exact .inr (hv t (List.mem_cons_self ..) u (hasW_mem h2))
    · exact says_sz ts ss (fun t ht => hv t (List.mem_cons_of_mem _ ht)) (by simpa using hl) h.2 u hu
theorem sz16 {s : ByteArray} (h : s = ⟨#[]⟩ ∨ isW s = true) : s.size ≤ 16 := by
  rcases h with rfl | h
  · decide
  · exact isW_size h
mutual
theorem fitsI_T {l : List ClassV} (hg : gramOk l = true) : ∀ (x : ItemV) (deep most n : Int), fitsI (gramM l) x deep most = some n → OkT (gramM l) x.pl ∧ n = cntT x.pl
  | .mk cls As cs says Ap cp parts, deep, most, n, h => by
    unfold fitsI at h
    split at h
    · cases h
    · rename_i c hc
      split at h
      · cases h
      · rename_i hn
        split at h
        · rename_i hso
          obtain ⟨hcl, hcn⟩ := gram_get hc
          have hok := gram_cls hg c hcl
          have h2 := fitsL_T hg _ parts deep most 1 n h
          refine ⟨.mk ⟨c, hc, by rw [pl_says]; show says.length = _; omega, hok.few, fun t ht => isW_size (hok.tn t ht)⟩ (by rw [pl_cls]; show cls.size ≤ 16; rw [← hcn]; exact isW_size hok.name) (by rw [pl_says]; exact fun s hs => sz16 (says_sz _ _ hok.tv (by omega) hso s hs)) (by rw [pl_parts, List.length_map]; show parts.length ≤ 6; have := hok.most; omega) (by rw [pl_parts, ← plL_map]; exact h2.1), ?_⟩
          rw [ItemV.pl, cntT]; exact h2.2
        · cases h
theorem fitsL_T {l : List ClassV} (hg : gramOk l = true) (cp : List ByteArray) : ∀ (xs : List ItemV) (deep most many n : Int), fitsL (gramM l) cp xs deep most many = some n → (∀ p ∈ plL xs, OkT (gramM l) p) ∧ n = many + cntL (plL xs)
  | [], _, _, many, n, h => by
    rw [fitsL] at h; injection h with h
    exact ⟨by simp [plL], by rw [plL, cntL]; omega⟩
  | q :: xs, deep, most, many, n, h => by
    unfold fitsL at h
    split at h
    · split at h
      · cases h
      · rename_i m hm2
        have h1 := fitsI_T hg q _ _ m hm2
        have h2 := fitsL_T hg cp xs deep most (many + m) n h
        refine ⟨fun p hp => ?_, by rw [plL, cntL]; omega⟩
        rw [plL] at hp
        rcases List.mem_cons.1 hp with hp | hp
        · rw [hp]; exact h1.1
        · exact h2.1 p hp
    · cases h
end
theorem ask_T {l : List ClassV} {xs : List ItemV} (h : askIOk l xs = true) : ∀ x ∈ xs, OkT (gramM l) x.pl ∧ cntT x.pl ≤ 24 := by
  intro x hx
  simp only [askIOk, Bool.and_eq_true, List.all_eq_true] at h
  have h1 := h.2 x hx
  unfold itemOk at h1
  obtain ⟨n, hn⟩ := Option.isSome_iff_exists.1 h1
  obtain ⟨h2, h3⟩ := fitsI_T h.1 x 1 24 n hn
  have := fitsI_bd _ x 1 24 n hn
  exact ⟨h2, by omega⟩
mutual
theorem cnt_pos : ∀ x : IT, 1 ≤ cntT x
  | .mk _ _ parts => by rw [cntT]; have := cntL_pos parts; omega
theorem cntL_pos : ∀ l : List IT, 0 ≤ cntL l
  | [] => by rw [cntL]; omega
  | p :: l => by rw [cntL]; have := cnt_pos p; have := cntL_pos l; omega
end
theorem cntL_mem : ∀ (l : List IT) (p : IT), p ∈ l → cntT p ≤ cntL l
  | [], p, h => by simp at h
  | q :: l, p, h => by
    rw [cntL]
    rcases List.mem_cons.1 h with rfl | h
    · have := cntL_pos l; omega
    · have := cntL_mem l p h; have := cnt_pos q; omega
theorem OkT.get {g : List (ByteArray × ClassV)} {x : IT} (h : OkT g x) : ∃ c, getL g x.cls = some c ∧ x.says.length = c.traits.length ∧ c.traits.length ≤ 8 ∧ ∀ t ∈ c.traits, t.name.size ≤ 16 := by cases h; assumption
theorem OkT.pt {g : List (ByteArray × ClassV)} {x : IT} (h : OkT g x) : ∀ p ∈ x.parts, OkT g p := by cases h; assumption
theorem OkT.csz {g : List (ByteArray × ClassV)} {x : IT} (h : OkT g x) : x.cls.size ≤ 16 := by cases h; assumption
theorem OkT.ssz {g : List (ByteArray × ClassV)} {x : IT} (h : OkT g x) : ∀ s ∈ x.says, s.size ≤ 16 := by cases h; assumption
theorem OkT.few {g : List (ByteArray × ClassV)} {x : IT} (h : OkT g x) : x.parts.length ≤ 6 := by cases h; assumption
theorem traits8 {g : List (ByteArray × ClassV)} {x : IT} (h : OkT g x) : (traitsOf g x.cls).length ≤ 8 ∧ ∀ t ∈ traitsOf g x.cls, t.name.size ≤ 16 := by
  obtain ⟨c, hc, _, h3, h4⟩ := h.get
  unfold traitsOf; rw [hc]; exact ⟨h3, h4⟩
mutual
theorem tok_len {g : List (ByteArray × ClassV)} : ∀ x : IT, OkT g x → ((tokT g x).length : Int) + 1 ≤ 11 * cntT x
  | .mk cls says parts, h => by
    have h1 := saidTok_len (traitsOf g cls) says
    have h2 := (traits8 h).1
    have h3 := tokP_len true parts h.pt
    simp only [IT.cls] at h2
    rw [tokT, cntT]
    simp only [List.length_append, List.length_cons]
    have h4 : (if parts.length = 0 then ([] : List ByteArray) else [tClose]).length ≤ 1 := by split <;> simp
    omega
theorem tokP_len {g : List (ByteArray × ClassV)} (b : Bool) : ∀ l : List IT, (∀ p ∈ l, OkT g p) → ((tokP g b l).length : Int) ≤ 11 * cntL l
  | [], _ => by rw [tokP, cntL]; simp
  | p :: l, h => by
    have h1 := tok_len p (h p (List.mem_cons_self ..))
    have h2 := tokP_len false l (fun q hq => h q (List.mem_cons_of_mem _ hq))
    rw [tokP, cntL]
    simp only [List.length_cons, List.length_append]
    omega
end
theorem said_sz : ∀ (ts : List TraitV) (ss : List ByteArray), (∀ t ∈ ts, t.name.size ≤ 16) → (∀ s ∈ ss, s.size ≤ 16) → ∀ u ∈ saidTok ts ss, u.size ≤ 33
  | [], _, _, _ => by simp [saidTok]
  | _ :: _, [], _, _ => by simp [saidTok]
  | t :: ts, s :: ss, h1, h2 => by
    intro u hu
    have ih := said_sz ts ss (fun t ht => h1 t (List.mem_cons_of_mem _ ht)) (fun s hs => h2 s (List.mem_cons_of_mem _ hs)) u
    rw [saidTok] at hu
    split at hu
    · exact ih hu
    · rcases List.mem_cons.1 hu with rfl | hu
      · rw [ByteArray.size_append, ByteArray.size_append]
        have a1 := h1 t (List.mem_cons_self ..)
        have a2 := h2 s (List.mem_cons_self ..)
        have a3 : tEq.size = 1 := rfl
        omega
      · exact ih hu
mutual
theorem tok_sz {g : List (ByteArray × ClassV)} : ∀ x : IT, OkT g x → ∀ u ∈ tokT g x, u.size ≤ 33
  | .mk cls says parts, h => by
    intro u hu
    rw [tokT, List.mem_append, List.mem_append, List.mem_cons] at hu
    rcases hu with (rfl | hu) | hu | hu
    · have := h.csz; simp only [IT.cls] at this; omega
    · exact said_sz _ _ (traits8 h).2 h.ssz u hu
    · exact tokP_sz true parts h.pt u hu
    · split at hu
      · simp at hu
      · rw [List.mem_singleton.1 hu]; decide
theorem tokP_sz {g : List (ByteArray × ClassV)} (b : Bool) : ∀ l : List IT, (∀ p ∈ l, OkT g p) → ∀ u ∈ tokP g b l, u.size ≤ 33
  | [], _ => by simp [tokP]
  | p :: l, h => by
    intro u hu
    rw [tokP] at hu
    rcases List.mem_cons.1 hu with rfl | hu
    · split <;> decide
    · rcases List.mem_append.1 hu with hu | hu
      · exact tok_sz p (h p (List.mem_cons_self ..)) u hu
      · exact tokP_sz false l (fun q hq => h q (List.mem_cons_of_mem _ hq)) u hu
end
theorem tok_ne (g : List (ByteArray × ClassV)) (x : IT) : tokT g x ≠ [] := by rw [tokT_eq]; simp
theorem jn_size (xs : List ByteArray) (h : ∀ s ∈ xs, s.size ≤ 33) : (jn xs).size ≤ 34 * xs.length := by
  cases xs with
  | nil => decide
  | cons x r =>
    have h1 : (jn (x :: r)).size = (Lib.join ((x :: r).map (fun s => s.data.toList)) [32]).length := by
      show Array.size _ = _
      simp [Lib.join]
    rw [h1, List.map_cons, Lib.join_length]
    have h2 : ∀ l : List ByteArray, (∀ s ∈ l, s.size ≤ 33) → Lib.lens (l.map (fun s => s.data.toList)) ≤ 33 * l.length := by
      intro l
      induction l with
      | nil => intro _; exact Nat.le_refl _
      | cons y l ih =>
        intro hl
        have h3 := ih (fun s hs => hl s (List.mem_cons_of_mem _ hs))
        have h4 := hl y (List.mem_cons_self ..)
        have h5 : y.data.toList.length = y.size := by simp
        unfold Lib.lens at h3 ⊢
        rw [List.map_cons, List.map_cons, List.sum_cons, List.length_cons, h5]
        omega
    have h3 := h2 (x :: r) h
    rw [List.map_cons] at h3
    simp only [List.length_cons, List.length_map, List.length_nil] at h3 ⊢
    omega
theorem txt_size {g : List (ByteArray × ClassV)} {x : IT} (h : OkT g x) (hc : cntT x ≤ 24) : (txtT g x).size ≤ 10000 := by
  have h1 := jn_size (tokT g x) (tok_sz x h)
  have h2 := tok_len x h
  unfold txtT
  omega
end Go.Proofs.YtppfniekcgnmjaaGreat.Pl
namespace Go.Proofs.YtppfniekcgnmjaaGreat.Pl
open Go.Sx Go.RowKit Go.Shelf Go.Proofs
def lays156_ren : Go.Shelf.Ren := ⟨fun | 156 => 159 | 165 => 174 | 166 => 175 | 169 => 176 | 240 => 192 | 241 => 193 | 276 => 201 | 277 => 202 | n => n, fun | 31 => 163 | 9 => 9 | 3 => 3 | 4 => 4 | 0 => 0 | 20 => 20 | 72 => 283 | 76 => 287 | 70 => 281 | 37 => 255 | 75 => 286 | 127 => 298 | 164 => 302 | 5 => 5 | 80 => 289 | n => n, fun n => n⟩
theorem lays156 : Go.Proofs.Lays.n156 Tryz.prog lays156_ren where
  mixed := by kernel_rfl
  f156 := Tryz.func159.trans (congrArg some (by kernel_rfl))
  f165 := Tryz.func174.trans (congrArg some (by kernel_rfl))
  f166 := Tryz.func175.trans (congrArg some (by kernel_rfl))
  f169 := Tryz.func176.trans (congrArg some (by kernel_rfl))
  f240 := Tryz.func192.trans (congrArg some (by kernel_rfl))
  f241 := Tryz.func193.trans (congrArg some (by kernel_rfl))
  f276 := Tryz.func201.trans (congrArg some (by kernel_rfl))
  f277 := Tryz.func202.trans (congrArg some (by kernel_rfl))
  t0 := Tryz.underlying0
  a0 := Tryz.isAgg0
  z0 := Tryz.sizeOf0
  v0 := Tryz.zeroValue0
  t3 := Tryz.underlying3
  a3 := Tryz.isAgg3
  z3 := Tryz.sizeOf3
  v3 := Tryz.zeroValue3
  t4 := Tryz.underlying4
  a4 := Tryz.isAgg4
  z4 := Tryz.sizeOf4
  v4 := Tryz.zeroValue4
  t9 := Tryz.underlying9
  a9 := Tryz.isAgg9
  z9 := Tryz.sizeOf9
  v9 := Tryz.zeroValue9
  t20 := Tryz.underlying20
  a20 := Tryz.isAgg20
  z20 := Tryz.sizeOf20
  v20 := Tryz.zeroValue20
  t31 := Tryz.underlying163
  a31 := Tryz.isAgg163
  z31 := Tryz.sizeOf163
  v31 := Tryz.zeroValue163
  t37 := Tryz.underlying255
  a37 := Tryz.isAgg255
  z37 := Tryz.sizeOf255
  v37 := Tryz.zeroValue255
  t70 := Tryz.underlying281
  a70 := Tryz.isAgg281
  z70 := Tryz.sizeOf281
  v70 := Tryz.zeroValue281
  t72 := Tryz.underlying283
  a72 := Tryz.isAgg283
  z72 := Tryz.sizeOf283
  v72 := Tryz.zeroValue283
  t75 := Tryz.underlying286
  a75 := Tryz.isAgg286
  z75 := Tryz.sizeOf286
  v75 := Tryz.zeroValue286
  t76 := Tryz.underlying287
  a76 := Tryz.isAgg287
  z76 := Tryz.sizeOf287
  v76 := Tryz.zeroValue287
  t127 := Tryz.underlying298
  a127 := Tryz.isAgg298
  z127 := Tryz.sizeOf298
  v127 := Tryz.zeroValue298
  t164 := Tryz.underlying302
  a164 := Tryz.isAgg302
  z164 := Tryz.sizeOf302
  v164 := Tryz.zeroValue302
theorem Builder_Extra_156 : Builder.Extra Tryz.prog lays156_ren := {
  sizeBuilder := by kernel_rfl
  liesBuilder := by kernel_rfl
  t5 := Tryz.underlying5
  a5 := Tryz.isAgg5
  z5 := Tryz.sizeOf5
  v5 := Tryz.zeroValue5
  infoByte := by kernel_rfl
  cellsByte := by kernel_rfl
  sizeByte := by kernel_rfl
  neB5 := by decide }

theorem join_ok (A : Option Addr) (c : Nat) (xs : List ByteArray) (w : World) (hO : (ow 9 1 enStr A c xs).P w) (hne : xs ≠ []) (hN : xs.length ≤ 1000000) (hlen : (jn xs).size ≤ 1000000) :
    Calls Tryz.prog 159 #[.slice A xs.length c, .string tBl] w (fun e w' => e = .returned (.string (jn xs)) ∧ Grow w w') := by
  obtain ⟨g, rfl, hc, hg⟩ := ow_shape hO hne
  obtain ⟨a, ha, hcell⟩ := ow_cells hO (fun _ => rfl) hne
  injection ha with ha
  subst ha
  have h := Any.strings_Join lays156 Builder_Extra_156 g 0 c xs tBl w (fun j x hx => ?_) hg (by omega) hc (by
    have : (jn xs).size = (Lib.join (xs.map (·.data.toList)) tBl.data.toList).length := by
      show Array.size _ = _
      simp [Lib.join]
    omega)
  · exact h.mono fun e w' ⟨h1, h2⟩ => ⟨h1, h2⟩
  · have := hcell j x 0 (.string x) hx rfl
    unfold Addr.add at this
    simp only [Nat.mul_one, Nat.add_zero] at this
    split at this
    · rename_i h0; rw [h0]; exact this
    · simpa using this
end Go.Proofs.YtppfniekcgnmjaaGreat.Pl
namespace Go.Proofs.YtppfniekcgnmjaaGreat.Pl
open Go.Sx Go.RowKit
set_option maxRecDepth 20000

end Go.Proofs.YtppfniekcgnmjaaGreat.Pl
namespace Go.Proofs.YtppfniekcgnmjaaGreat.Pl
open Go.Sx Go.RowKit
set_option maxRecDepth 20000
set_option maxHeartbeats 1000000 in
theorem k_tok1 (x : ItemV) (b : Nat) (g : List (ByteArray × ClassV)) (w : World) (hM : (mp ekS evC b g).P w) (hbl : b < w.heap.size) (hgg : ∀ p ∈ g, GoodC w p.2) (hx : GoodI w x) (ho : OkT g x.pl) (hcn : cntT x.pl ≤ 24) (ih : ∀ p ∈ x.parts, ∀ (w1 : World), Grow w w1 → Calls Tryz.prog 136 #[.map (some b), evI p] w1 (fun e w' => ∃ A c, e = .returned (.slice A (tokT g p.pl).length c) ∧ Grow w1 w' ∧ (ow 9 1 enStr A c (tokT g p.pl)).P w' ∧ ∀ i, (ow 9 1 enStr A c (tokT g p.pl)).fp i → w1.heap.size ≤ i)) : Calls Tryz.prog 136 #[.map (some b), evI x] w (fun e w' => ∃ A c, e = .returned (.slice A (tokT g x.pl).length c) ∧ Grow w w' ∧ (ow 9 1 enStr A c (tokT g x.pl)).P w' ∧ ∀ i, (ow 9 1 enStr A c (tokT g x.pl)).fp i → w.heap.size ≤ i) := by
  have hl1 := hx.rs.len
  have hl2 := hx.rp.len
  obtain ⟨c, hgc, hsl, ht8, htn⟩ := ho.get
  rw [pl_cls] at hgc
  rw [pl_says] at hsl
  have hcl : (getL g x.cls).getD zC = c := by rw [hgc]; rfl
  have hGC : GoodC w c := by obtain ⟨p, hp, he⟩ := getL_mem hgc; rw [← he]; exact hgg p hp
  have hTl : (tokT g x.pl).length ≤ 264 := by have := tok_len x.pl ho; omega
  have hTe := tokT_eq g x.pl
  rw [pl_cls, pl_says, pl_parts, List.length_map, show traitsOf g x.cls = c.traits by unfold traitsOf; rw [hcl]] at hTe
  have hss : ∀ s ∈ x.says, s.size ≤ 16 := by have := ho.ssz; rw [pl_says] at this; exact this
  skip
  refine enter_pure (args := [.map (some b), evI x]) [mp ekS evC b g] Tryz.func136 rfl (by rw [Tryz.ntmps136]; simp) (fun f hf => by simp at hf; subst hf; exact ⟨hM, fun i hi => by have : i = b := hi; subst this; exact hbl⟩) ?_
  refine cj_seq (cj_region ?_)
  refine oj_box rfl rfl rfl (fun b3 => ?_)
  refine oj_step (y_assign rfl) rfl rfl rfl ?_
  refine oj_nil ?_
  refine ej_th (cj_seq (cj_region ?_))
  refine oj_step (y_fa0 fa174_0 rfl) rfl rfl rfl ?_
  refine oj_step (y_load1 Tryz.isAgg9 rfl rfl) rfl rfl rfl ?_
  refine oj_buildSlice (cs := [.string x.cls]) [.string ⟨#[]⟩] Tryz.underlying163 Tryz.sizeOf9 Tryz.zeroValue9 rfl rfl (by kernel_rfl) (by kernel_rfl) rfl (fun b12 => ?_)
  refine oj_litOw (b := b12) (e := 9) (c := 1) (sz := 1) (enc := enStr) [x.cls] rfl rfl rfl (by unfold maxLen; simp) ?_
  refine oj_step (y_assign rfl) rfl rfl rfl ?_
  refine oj_nil ?_
  refine ej_th (cj_seq (cj_seq ?_))
  refine cj_regionG (gj_step (y_move rfl) rfl rfl rfl (gj_step (y_fa0 fa174_0 rfl) rfl rfl rfl (gj_step (y_load1 Tryz.isAgg9 rfl rfl) rfl rfl rfl (gj_step (y_lookupS1 (ek := ekS) (ev := evC) zC Tryz.underlying207 Tryz.underlying9 Tryz.zeroValue168 rfl rfl) rfl rfl rfl (gj_step (y_field1 (cs := [.string ((getL g x.cls).getD zC).name, .slice ((getL g x.cls).getD zC).At ((getL g x.cls).getD zC).traits.length ((getL g x.cls).getD zC).ct, .slice ((getL g x.cls).getD zC).Ap ((getL g x.cls).getD zC).parts.length ((getL g x.cls).getD zC).cp, .int .i64 ((getL g x.cls).getD zC).most]) fa168_1 rfl rfl) rfl rfl rfl (gj_step (y_lenA Tryz.underlying166 rfl) rfl rfl rfl (gj_step (y_move rfl) rfl rfl rfl (gj_nil ?_))))))))
  refine ej_th (cj_block ?_)
  rw [hcl]
  refine cj_rd hGC.rt (fun _ h => h) ?_
  refine cj_rd hx.rs (fun _ h => h) ?_
  refine cj_rd hx.rp (fun _ h => h) ?_
  refine cj_lpi (X := Nat × Option Addr × Nat × List ByteArray) [(0, _), (3, _), (4, _), (17, _), (18, _)] (fun ⟨k, A1, c1, xs⟩ => k ≤ c.traits.length ∧ xs ++ (saidTok (c.traits.drop k) (x.says.drop k) ++ (tokP g true (x.parts.map ItemV.pl) ++ (if x.parts.length = 0 then ([] : List ByteArray) else [tClose]))) = tokT g x.pl) (fun ⟨k, A1, c1, xs⟩ => [(5, .slice A1 xs.length c1), (19, .int .i64 k)]) (fun ⟨k, A1, c1, xs⟩ => [ow 9 1 enStr A1 c1 xs, ownB b3 (cellsB 174 [.string x.cls, .slice x.As x.says.length x.cs, .slice x.Ap x.parts.length x.cp])]) (fun ⟨k, A1, c1, xs⟩ => [sl (fun b => b < w.heap.size) 3 encIt x.Ap x.parts, sl (fun b => b < w.heap.size) 1 enStr x.As x.says, sl (fun b => b < w.heap.size) 3 encTr c.At c.traits, mp ekS evC b g]) (fun ⟨k, A1, c1, xs⟩ => c.traits.length - k) (0, some ⟨b12, 0, none⟩, 1, [x.cls]) (⟨Nat.zero_le _, by rw [hTe]; rfl⟩) ⟨rfl, rfl, rfl, rfl, rfl, rfl, rfl, trivial⟩ ?_
  rintro ⟨k, A1, c1, xs⟩ ⟨hk, hxs⟩
  dsimp only [List.cons_append, List.nil_append]
  refine cj_seq ?_
  refine cj_regionG (gj_step (y_lss rfl rfl) rfl rfl rfl (gj_nil ?_))
  refine ej_th (cj_seq ?_)
  refine cj_cond rfl (fun h20 => ?_) (fun h20 => ?_)
  · have h20b := h20
    try simp only [sxb] at h20
    obtain ⟨t, ht⟩ : ∃ t, c.traits[k]? = some t := ⟨_, List.getElem?_eq_getElem (by omega)⟩
    obtain ⟨s, hs⟩ : ∃ s, x.says[k]? = some s := ⟨_, List.getElem?_eq_getElem (by omega)⟩
    rw [saidTok_drop _ _ k t s ht hs] at hxs
    refine cj_skip (ej_th (cj_seq (cj_block (cj_seq (cj_region ?_)))))
    refine oj_step (y_move rfl) rfl rfl rfl ?_
    refine oj_step (y_ixR (reads_sl) Tryz.underlying166 Tryz.sizeOf165 rfl rfl (⟨by omega, by omega⟩)) rfl rfl rfl ?_
    refine oj_step (y_ldW (reads_sl) Tryz.isAgg165 Tryz.sizeOf165 rfl (ht) (fun _ => rfl)) rfl rfl rfl ?_
    refine oj_alloc Tryz.zeroValue165 rfl rfl (fun b7 => ?_)
    refine oj_step (y_assign rfl) rfl rfl rfl ?_
    refine oj_store rfl rfl rfl rfl Tryz.sizeOf165 rfl ?_
    refine oj_nil ?_
    refine ej_th (cj_seq ?_)
    refine cj_regionG (gj_step (y_fa fa174_1 rfl) rfl rfl rfl (gj_step (y_load1 Tryz.isAgg163 rfl rfl) rfl rfl rfl (gj_step (y_move rfl) rfl rfl rfl (gj_step (y_ixR (reads_sl) Tryz.underlying163 Tryz.sizeOf9 rfl rfl (⟨by omega, by omega⟩)) rfl rfl rfl (gj_step (y_ld0 (reads_sl) Tryz.isAgg9 rfl (hs) rfl) rfl rfl rfl (gj_step (y_neqS rfl rfl) rfl rfl rfl (gj_nil ?_)))))))
    refine ej_th ?_
    refine cj_cond rfl (fun h29 => ?_) (fun h29 => ?_)
    · have h29b := h29
      try simp only [sxb] at h29
      rw [if_neg (show ¬ (s == (⟨#[]⟩ : ByteArray)) = true by rw [not_t h29b]; simp)] at hxs
      have hlen := congrArg List.length hxs
      simp only [List.length_append, List.length_cons] at hlen
      refine cj_plan 13 (by kernel_rfl) (by kernel_rfl) ?_
      refine pl_y 0 rfl (y_move rfl) rfl rfl rfl rfl (by kernel_rfl) ?_
      refine pl_y 1 rfl (y_fa0 fa165_0 rfl) rfl rfl rfl rfl (by kernel_rfl) ?_
      refine pl_y 2 rfl (y_load1 Tryz.isAgg9 rfl rfl) rfl rfl rfl rfl (by kernel_rfl) ?_
      refine pl_y 3 rfl (y_addS rfl rfl (by have h1s : (⟨#[61]⟩ : ByteArray).size = 1 := rfl; have := htn t (List.mem_of_getElem? ht); omega)) rfl rfl rfl rfl (by kernel_rfl) ?_
      refine pl_y 4 rfl (y_fa fa174_1 rfl) rfl rfl rfl rfl (by kernel_rfl) ?_
      refine pl_y 5 rfl (y_load1 Tryz.isAgg163 rfl rfl) rfl rfl rfl rfl (by kernel_rfl) ?_
      refine pl_y 6 rfl (y_move rfl) rfl rfl rfl rfl (by kernel_rfl) ?_
      refine pl_y 7 rfl (y_ixR (reads_sl) Tryz.underlying163 Tryz.sizeOf9 rfl rfl (⟨by omega, by omega⟩)) rfl rfl rfl rfl (by kernel_rfl) ?_
      refine pl_y 8 rfl (y_ld0 (reads_sl) Tryz.isAgg9 rfl (hs) rfl) rfl rfl rfl rfl (by kernel_rfl) ?_
      refine pl_y 9 rfl (y_addS rfl rfl (by rw [ByteArray.size_append]; have h1s : (⟨#[61]⟩ : ByteArray).size = 1 := rfl; have := htn t (List.mem_of_getElem? ht); have := hss s (List.mem_of_getElem? hs); omega)) rfl rfl rfl rfl (by kernel_rfl) ?_
      refine pl_w1 10 (by kernel_rfl) rfl rfl (pl_fire rfl rfl rfl (by kernel_rfl) ?_)
      refine oj_buildSlice (cs := [.string (t.name ++ tEq ++ s)]) [.string ⟨#[]⟩] Tryz.underlying163 Tryz.sizeOf9 Tryz.zeroValue9 rfl rfl (by kernel_rfl) (by kernel_rfl) rfl (fun b40 => ?_)
      refine oj_nil ?_
      refine ej_pl (lt_w (by kernel_rfl) (lt_y (y_ld0 (reads_sl) Tryz.isAgg9 rfl (hs) rfl) rfl (lt_y (y_ixR (reads_sl) Tryz.underlying163 Tryz.sizeOf9 rfl rfl (⟨by omega, by omega⟩)) rfl (lt_y (y_move rfl) rfl (lt_y (y_load1 Tryz.isAgg163 rfl rfl) rfl (lt_y (y_fa fa174_1 rfl) rfl (lt_y (y_addS rfl rfl (by have h1s : (⟨#[61]⟩ : ByteArray).size = 1 := rfl; have := htn t (List.mem_of_getElem? ht); omega)) rfl (lt_y (y_load1 Tryz.isAgg9 rfl rfl) rfl (lt_y (y_fa0 fa165_0 rfl) rfl (lt_y (y_move rfl) rfl (lt_nil))))))))))) ?_
      refine pl_w1 11 (by kernel_rfl) rfl rfl (pl_fire rfl rfl rfl (by kernel_rfl) ?_)
      refine oj_append  el163 (fun _ => rfl) enStr_one rfl rfl rfl (reads_lit [(t.name ++ tEq ++ s)] (fun _ => rfl) rfl) (by unfold maxLen; simp only [List.length_cons, List.length_nil]; omega) (by simp only [List.length_cons, List.length_nil]; omega) rfl (fun A41 c41 => ?_)
      refine oj_nil ?_
      refine ej_pl (lt_y (y_addS rfl rfl (by rw [ByteArray.size_append]; have h1s : (⟨#[61]⟩ : ByteArray).size = 1 := rfl; have := htn t (List.mem_of_getElem? ht); have := hss s (List.mem_of_getElem? hs); omega)) rfl (lt_y (y_ld0 (reads_sl) Tryz.isAgg9 rfl (hs) rfl) rfl (lt_y (y_ixR (reads_sl) Tryz.underlying163 Tryz.sizeOf9 rfl rfl (⟨by omega, by omega⟩)) rfl (lt_y (y_move rfl) rfl (lt_y (y_load1 Tryz.isAgg163 rfl rfl) rfl (lt_y (y_fa fa174_1 rfl) rfl (lt_y (y_addS rfl rfl (by have h1s : (⟨#[61]⟩ : ByteArray).size = 1 := rfl; have := htn t (List.mem_of_getElem? ht); omega)) rfl (lt_y (y_load1 Tryz.isAgg9 rfl rfl) rfl (lt_y (y_fa0 fa165_0 rfl) rfl (lt_w (by kernel_rfl) (lt_nil))))))))))) ?_
      refine pl_y 12 rfl (y_assign rfl) rfl rfl rfl rfl (by kernel_rfl) ?_
      refine pl_end (by kernel_rfl) ?_
      refine ej_blk (ej_th ?_)
      refine cj_regionG (gj_step (y_add rfl rfl (by omega)) rfl rfl rfl (gj_step (y_move rfl) rfl rfl rfl (gj_nil ?_)))
      exact ej_nx (k + 1, A41, c41, xs ++ [t.name ++ tEq ++ s]) (by simp only; omega) ⟨by first | omega | (simp only; omega), by rw [List.append_assoc]; exact hxs⟩ ⟨rfl, rfl, rfl, rfl, rfl, rfl, rfl, trivial⟩
    · have h29b := h29
      try simp only [sxb] at h29
      rw [if_pos (not_f h29b)] at hxs
      refine cj_skip (ej_blk (ej_th ?_))
      refine cj_regionG (gj_step (y_add rfl rfl (by omega)) rfl rfl rfl (gj_step (y_move rfl) rfl rfl rfl (gj_nil ?_)))
      exact ej_nx (k + 1, A1, c1, xs) (by simp only; omega) ⟨by first | omega | (simp only; omega), hxs⟩ ⟨rfl, rfl, rfl, rfl, rfl, rfl, rfl, trivial⟩
  · have h20b := h20
    try simp only [sxb] at h20
    rw [List.drop_of_length_le (show c.traits.length ≤ k by omega)] at hxs
    refine cj_exit (ej_then_exit (ej_then_exit (ej_blk_hit (ej_th (cj_seq (cj_seq ?_))))))
    refine cj_regionG (gj_step (y_fa fa174_2 rfl) rfl rfl rfl (gj_step (y_load1 Tryz.isAgg172 rfl rfl) rfl rfl rfl (gj_step (y_lenA Tryz.underlying172 rfl) rfl rfl rfl (gj_step (y_move rfl) rfl rfl rfl (gj_nil ?_)))))
    refine ej_th (cj_block ?_)
    refine cj_lpi (X := Nat × Option Addr × Nat × List ByteArray) [(0, _), (3, _), (4, _), (44, _), (45, _)] (fun ⟨k, A1, c1, xs⟩ => k ≤ x.parts.length ∧ xs ++ (tokP g (decide (k = 0)) ((x.parts.map ItemV.pl).drop k) ++ (if x.parts.length = 0 then ([] : List ByteArray) else [tClose])) = tokT g x.pl) (fun ⟨k, A1, c1, xs⟩ => [(5, .slice A1 xs.length c1), (46, .int .i64 k)]) (fun ⟨k, A1, c1, xs⟩ => [ow 9 1 enStr A1 c1 xs, ownB b3 (cellsB 174 [.string x.cls, .slice x.As x.says.length x.cs, .slice x.Ap x.parts.length x.cp])]) (fun ⟨k, A1, c1, xs⟩ => [sl (fun b => b < w.heap.size) 3 encIt x.Ap x.parts, sl (fun b => b < w.heap.size) 1 enStr x.As x.says, sl (fun b => b < w.heap.size) 3 encTr c.At c.traits, mp ekS evC b g]) (fun ⟨k, A1, c1, xs⟩ => x.parts.length - k) (0, A1, c1, xs) (⟨Nat.zero_le _, by rw [← hxs]; rfl⟩) ⟨rfl, rfl, rfl, rfl, rfl, rfl, rfl, trivial⟩ ?_
    rintro ⟨k, A1, c1, xs⟩ ⟨hk, hxs⟩
    dsimp only [List.cons_append, List.nil_append]
    refine cj_seq ?_
    refine cj_regionG (gj_step (y_lss rfl rfl) rfl rfl rfl (gj_nil ?_))
    refine ej_th (cj_seq ?_)
    refine cj_cond rfl (fun h47 => ?_) (fun h47 => ?_)
    · have h47b := h47
      try simp only [sxb] at h47
      obtain ⟨q, hq⟩ : ∃ q, x.parts[k]? = some q := ⟨_, List.getElem?_eq_getElem (by omega)⟩
      rw [tokP_drop g (x.parts.map ItemV.pl) k q.pl (by rw [List.getElem?_map, hq]; rfl)] at hxs
      have hsep : ([tOpen, tSemi] : List ByteArray)[(min (k : Int) 1).toNat]? = some (if k = 0 then tOpen else tSemi) := by
        by_cases h0 : k = 0
        · subst h0; rfl
        · rw [if_neg h0, show (min (k : Int) 1).toNat = 1 by omega]; rfl
      have hlen := congrArg List.length hxs
      simp only [List.length_append, List.length_cons] at hlen
      refine cj_skip (ej_th (cj_seq (cj_block (cj_seq (cj_region ?_)))))
      refine oj_step (y_move rfl) rfl rfl rfl ?_
      refine oj_step (y_ixR (reads_sl) Tryz.underlying172 Tryz.sizeOf174 rfl rfl (⟨by omega, by omega⟩)) rfl rfl rfl ?_
      refine oj_step (y_ldW (reads_sl) Tryz.isAgg174 Tryz.sizeOf174 rfl (hq) (fun _ => rfl)) rfl rfl rfl ?_
      refine oj_alloc Tryz.zeroValue174 rfl rfl (fun b9 => ?_)
      refine oj_step (y_assign rfl) rfl rfl rfl ?_
      refine oj_store rfl rfl rfl rfl Tryz.sizeOf174 rfl ?_
      refine oj_nil ?_
      refine ej_th (cj_seq (cj_region ?_))
      refine oj_step (y_move rfl) rfl rfl rfl ?_
      refine oj_buildSlice (cs := [.string ⟨#[40]⟩, .string ⟨#[59]⟩]) [.string ⟨#[]⟩, .string ⟨#[]⟩] Tryz.underlying163 Tryz.sizeOf9 Tryz.zeroValue9 rfl rfl (by kernel_rfl) (by kernel_rfl) rfl (fun b52 => ?_)
      refine oj_step (y_move rfl) rfl rfl rfl ?_
      refine oj_step (y_min rfl rfl) rfl rfl rfl ?_
      refine oj_step (y_ixR (reads_lit (enc := enStr) (sz := 1) [tOpen, tSemi] (fun _ => rfl) rfl) Tryz.underlying163 Tryz.sizeOf9 rfl rfl (⟨by omega, by simp only [List.length_cons, List.length_nil]; omega⟩)) rfl rfl rfl ?_
      refine oj_step (y_ld0 (reads_lit (enc := enStr) (sz := 1) [tOpen, tSemi] (fun _ => rfl) rfl) Tryz.isAgg9 rfl (hsep) rfl) rfl rfl rfl ?_
      refine oj_buildSlice (cs := [.string (if k = 0 then tOpen else tSemi)]) [.string ⟨#[]⟩] Tryz.underlying163 Tryz.sizeOf9 Tryz.zeroValue9 rfl rfl (by kernel_rfl) (by kernel_rfl) rfl (fun b57 => ?_)
      refine oj_append  el163 (fun _ => rfl) enStr_one rfl rfl rfl (reads_lit [(if k = 0 then tOpen else tSemi)] (fun _ => rfl) rfl) (by unfold maxLen; simp only [List.length_cons, List.length_nil]; omega) (by simp only [List.length_cons, List.length_nil]; omega) rfl (fun A58 c58 => ?_)
      refine oj_step (y_assign rfl) rfl rfl rfl ?_
      refine oj_nil ?_
      refine ej_th (cj_region ?_)
      refine oj_step (y_move rfl) rfl rfl rfl ?_
      refine oj_step (y_move rfl) rfl rfl rfl ?_
      refine oj_step (y_loadN Tryz.isAgg174 Tryz.sizeOf174 rfl) rfl rfl rfl ?_
      refine oj_callO (fun A c => .slice A (tokT g q.pl).length c) 9 1 enStr (tokT g q.pl) Tryz.call136 rfl (fun w1 hp => by have h := ih q (List.mem_of_getElem? hq) w1 hp.below; exact h) rfl (fun A62 c62 => ?_)
      refine oj_append  el163 (fun _ => rfl) enStr_one rfl rfl rfl (reads_ow (fun _ => rfl)) (by unfold maxLen; simp only [List.length_append, List.length_cons, List.length_nil]; omega) (by simp only [List.length_append, List.length_cons, List.length_nil]; omega) rfl (fun A63 c63 => ?_)
      refine oj_step (y_assign rfl) rfl rfl rfl ?_
      refine oj_nil ?_
      refine ej_blk (ej_th ?_)
      refine cj_regionG (gj_step (y_add rfl rfl (by omega)) rfl rfl rfl (gj_step (y_move rfl) rfl rfl rfl (gj_nil ?_)))
      exact ej_nx (k + 1, A63, c63, (xs ++ [if k = 0 then tOpen else tSemi]) ++ tokT g q.pl) (by simp only; omega) ⟨by first | omega | (simp only; omega), by rw [← hxs]; simp only [List.append_assoc, List.cons_append, List.nil_append]⟩ ⟨rfl, rfl, rfl, rfl, rfl, rfl, rfl, trivial⟩
    · have h47b := h47
      try simp only [sxb] at h47
      rw [List.drop_of_length_le (show (x.parts.map ItemV.pl).length ≤ k by rw [List.length_map]; omega), tokP, List.nil_append] at hxs
      refine cj_exit (ej_then_exit (ej_then_exit (ej_blk_hit (ej_th (cj_seq (cj_seq ?_))))))
      refine cj_regionG (gj_step (y_fa fa174_2 rfl) rfl rfl rfl (gj_step (y_load1 Tryz.isAgg172 rfl rfl) rfl rfl rfl (gj_step (y_lenA Tryz.underlying172 rfl) rfl rfl rfl (gj_step (y_gtr rfl rfl) rfl rfl rfl (gj_nil ?_)))))
      refine ej_th ?_
      refine cj_cond rfl (fun h68 => ?_) (fun h68 => ?_)
      · have h68b := h68
        try simp only [sxb] at h68
        rw [if_neg (show ¬ x.parts.length = 0 by omega)] at hxs
        have hlen := congrArg List.length hxs
        simp only [List.length_append, List.length_cons] at hlen
        refine cj_region ?_
        refine oj_step (y_move rfl) rfl rfl rfl ?_
        refine oj_buildSlice (cs := [.string ⟨#[41]⟩]) [.string ⟨#[]⟩] Tryz.underlying163 Tryz.sizeOf9 Tryz.zeroValue9 rfl rfl (by kernel_rfl) (by kernel_rfl) rfl (fun b70 => ?_)
        refine oj_append  el163 (fun _ => rfl) enStr_one rfl rfl rfl (reads_lit [tClose] (fun _ => rfl) rfl) (by unfold maxLen; simp only [List.length_cons, List.length_nil]; omega) (by simp only [List.length_cons, List.length_nil]; omega) rfl (fun A71 c71 => ?_)
        refine oj_step (y_assign rfl) rfl rfl rfl ?_
        refine oj_nil ?_
        refine ej_th (cj_seq ?_)
        refine cj_regionG (gj_step (y_move rfl) rfl rfl rfl (gj_step (y_assign rfl) rfl rfl rfl (gj_nil ?_)))
        refine ej_th (cj_ret ?_)
        exact ej_ret1 rfl Tryz.results136 rfl (fun w' hp => ⟨A71, c71, by rw [← hxs], hp.below, by rw [← hxs]; exact hp.resO⟩)
      · have h68b := h68
        try simp only [sxb] at h68
        rw [if_pos (show x.parts.length = 0 by omega), List.append_nil] at hxs
        refine cj_skip (ej_th (cj_seq ?_))
        refine cj_regionG (gj_step (y_move rfl) rfl rfl rfl (gj_step (y_assign rfl) rfl rfl rfl (gj_nil ?_)))
        refine ej_th (cj_ret ?_)
        exact ej_ret1 rfl Tryz.results136 rfl (fun w' hp => ⟨A1, c1, by rw [← hxs], hp.below, by rw [← hxs]; exact hp.resO⟩)

theorem k_tok {w0 : World} {b : Nat} {g : List (ByteArray × ClassV)} {x : ItemV} (hx : GoodI w0 x) : ∀ (w : World), Grow w0 w → (mp ekS evC b g).P w → b < w.heap.size → (∀ p ∈ g, GoodC w p.2) → OkT g x.pl → cntT x.pl ≤ 24 → Calls Tryz.prog 136 #[.map (some b), evI x] w (fun e w' => ∃ A c, e = .returned (.slice A (tokT g x.pl).length c) ∧ Grow w w' ∧ (ow 9 1 enStr A c (tokT g x.pl)).P w' ∧ ∀ i, (ow 9 1 enStr A c (tokT g x.pl)).fp i → w.heap.size ≤ i) := by
  induction hx with
  | @mk x hs hp hn hm hr ih =>
    intro w hg hM hbl hgg ho hc
    refine k_tok1 x b g w hM hbl hgg ((GoodI.mk hs hp hn hm hr).mono hg) ho hc (fun p hpm w1 hg1 => ?_)
    have hpo : p.pl ∈ x.pl.parts := by rw [pl_parts]; exact List.mem_map.2 ⟨p, hpm, rfl⟩
    have hcp : cntT p.pl ≤ 24 := by have h1 := cntL_mem _ _ hpo; have h2 := cntT_eq x.pl; omega
    exact ih p hpm w1 (grow_trans hg hg1) ((mp ekS evC b g).stab (fun i hi => hg1.block i (by have : i = b := hi; omega)) hM) (Nat.lt_of_lt_of_le hbl hg1.size) (fun q hq => (hgg q hq).mono hg1) (ho.pt _ hpo) hcp

theorem k_joined (A : Option Addr) (c : Nat) (xs : List ByteArray) (w : World) (hO : (ow 9 1 enStr A c xs).P w) (hne : xs ≠ []) (hN : xs.length ≤ 1000000) (hlen : (jn xs).size ≤ 1000000) : Calls Tryz.prog 135 #[.slice A xs.length c] w (fun e w' => e = .returned (.string (jn xs)) ∧ Grow w w') := by
  refine enter_pure (args := [.slice A xs.length c]) [ow 9 1 enStr A c xs] Tryz.func135 rfl (by rw [Tryz.ntmps135]; simp) (fun g hg => by simp at hg; subst hg; exact ⟨hO, ow_lt hO hne⟩) ?_
  refine cj_seq ?_
  refine cj_regionG (gj_step (y_assign rfl) rfl rfl rfl (gj_nil ?_))
  refine ej_th (cj_seq ?_)
  refine cj_regionG ?_
  refine gj_step (y_move rfl) rfl rfl rfl (?_)
  refine gj_step (y_call Tryz.call159 rfl (fun w hp => join_ok A c xs w (hp.shared _ (List.mem_singleton.2 rfl)).1 hne hN hlen)) rfl rfl rfl ?_
  refine gj_step (y_assign rfl) rfl rfl rfl (?_)
  refine gj_nil ?_
  refine ej_th (cj_ret ?_)
  exact ej_ret1 rfl Tryz.results135 rfl (fun w' hp => ⟨rfl, hp.below⟩)

theorem k_text (x : ItemV) (b : Nat) (g : List (ByteArray × ClassV)) (w : World) (hM : (mp ekS evC b g).P w) (hbl : b < w.heap.size) (hgg : ∀ p ∈ g, GoodC w p.2) (hx : GoodI w x) (ho : OkT g x.pl) (hcn : cntT x.pl ≤ 24) : Calls Tryz.prog 108 #[.map (some b), evI x] w (fun e w' => e = .returned (.string (txtT g x.pl)) ∧ Grow w w') := by
  have hTl : (tokT g x.pl).length ≤ 264 := by have := tok_len x.pl ho; omega
  have hTs := txt_size ho hcn
  refine enter_pure (args := [.map (some b), evI x]) [mp ekS evC b g] Tryz.func108 rfl (by rw [Tryz.ntmps108]; simp) (fun f hf => by simp at hf; subst hf; exact ⟨hM, fun i hi => by have : i = b := hi; subst this; exact hbl⟩) ?_
  refine cj_seq (cj_region ?_)
  refine oj_box rfl rfl rfl (fun b3 => ?_)
  refine oj_step (y_assign rfl) rfl rfl rfl ?_
  refine oj_nil ?_
  refine ej_th (cj_seq (cj_region ?_))
  refine oj_step (y_move rfl) rfl rfl rfl ?_
  refine oj_step (y_loadN Tryz.isAgg174 Tryz.sizeOf174 rfl) rfl rfl rfl ?_
  refine oj_callO (fun A c => .slice A (tokT g x.pl).length c) 9 1 enStr (tokT g x.pl) Tryz.call136 rfl (fun w1 hp => by have h := k_tok hx w1 hp.below hp.mpS.1 (hp.mpS (b := b) (ek := ekS) (ev := evC) (l := g)).2 (fun q hq => (hgg q hq).mono hp.below) ho hcn; exact h) rfl (fun A7 c7 => ?_)
  refine oj_step (y_call Tryz.call135 rfl (fun w hp => k_joined A7 c7 (tokT g x.pl) w (hp.own _ (List.mem_cons_self ..)).1 (tok_ne g x.pl) (by omega) (by unfold txtT at hTs; omega))) rfl rfl rfl ?_
  refine oj_step (y_assign rfl) rfl rfl rfl ?_
  refine oj_nil ?_
  refine ej_th (cj_ret ?_)
  exact ej_ret1 rfl Tryz.results108 rfl (fun w' hp => ⟨rfl, hp.below⟩)

end Go.Proofs.YtppfniekcgnmjaaGreat.Pl
namespace Go.Proofs.YtppfniekcgnmjaaGreat.Pl
open Go.Sx Go.RowKit
set_option maxRecDepth 20000

end Go.Proofs.YtppfniekcgnmjaaGreat.Pl
namespace Go.Proofs.YtppfniekcgnmjaaGreat.Pl
open Go.Sx Go.RowKit
set_option maxRecDepth 20000
theorem ask_gram {l : List ClassV} {xs : List ItemV} (h : askIOk l xs = true) : gramOk l = true := by
  simp only [askIOk, Bool.and_eq_true] at h; exact h.1

theorem k_Print (l : List ClassV) (A : Option Addr) (c : Nat) (x : ItemV) (w : World) (hl : Rd w 4 encCl A l) (hgc : ∀ c ∈ l, GoodC w c) (hx : GoodI w x) : Calls Tryz.prog 86 #[.slice A l.length c, evI x] w (fun e w' => e = .returned (.tuple #[.string (PrnT l x), .int .i64 (askIE l [x])]) ∧ Grow w w') := by
  refine enter_pure (args := [.slice A l.length c, evI x]) [sl (fun b => b < w.heap.size) 4 encCl A l] Tryz.func86 rfl (by rw [Tryz.ntmps86]; simp) (fun g hg => by simp at hg; subst hg; exact ⟨hl, fun _ h => h⟩) ?_
  refine cj_seq (cj_region ?_)
  refine oj_box rfl rfl rfl (fun b3 => ?_)
  refine oj_step (y_assign rfl) rfl rfl rfl ?_
  refine oj_step (y_assign rfl) rfl rfl rfl ?_
  refine oj_nil ?_
  refine ej_th (cj_seq (cj_region ?_))
  refine oj_step (y_move rfl) rfl rfl rfl ?_
  refine oj_step (y_loadN Tryz.isAgg174 Tryz.sizeOf174 rfl) rfl rfl rfl ?_
  refine oj_buildSlice (cs := [.string x.cls, .slice x.As x.says.length x.cs, .slice x.Ap x.parts.length x.cp]) [.string ⟨#[]⟩, .slice none 0 0, .slice none 0 0] Tryz.underlying172 Tryz.sizeOf174 Tryz.zeroValue174 rfl rfl (by kernel_rfl) (by kernel_rfl) rfl (fun b11 => ?_)
  refine oj_litOw (b := b11) (e := 174) (c := 1) (sz := 3) (enc := encIt) [x] rfl rfl rfl (by unfold maxLen; simp) ?_
  refine oj_call (X := Nat) (fun m => .tuple #[.map (bif askIOk l [x] then some m else none), .int .i64 (askIE l [x])]) (fun _ => []) (fun m => bif askIOk l [x] then [mp ekS evC m (gramM l)] else []) Tryz.call107 rfl (fun w hp => by
    have h := k_pasked l A c [x] (some ⟨b11, 0, none⟩) 1 w hp.rd (fun c hc => (hgc c hc).mono hp.below) (hp.rdO (A := some ⟨b11, 0, none⟩) (fun _ => rfl) (by unfold maxLen; simp)) (fun y hy => by
      rw [List.mem_singleton.1 hy]
      exact hx.mono hp.below)
    exact h.mono fun e w' ⟨m, he, hg, hm⟩ => ⟨m, he, hg, by simp, by simp, fun f hf => by
      cases hok : askIOk l [x] with
      | false => rw [hok] at hf; cases hf
      | true =>
        rw [hok] at hf
        rw [List.mem_singleton.1 hf]
        have h3 := hm hok
        exact ⟨h3.1, fun i hi => by have : i = m := hi; subst this; exact ⟨h3.2.1, h3.2.2, by simp⟩⟩⟩) rfl (fun m12 => ?_)
  dsimp only [List.cons_append, List.nil_append]
  refine oj_step (y_move rfl) rfl rfl rfl ?_
  refine oj_step (y_extract rfl rfl) rfl rfl rfl ?_
  refine oj_step (y_extract rfl rfl) rfl rfl rfl ?_
  refine oj_step (y_assign rfl) rfl rfl rfl ?_
  refine oj_step (y_assign rfl) rfl rfl rfl ?_
  refine oj_nil ?_
  refine ej_th (cj_seq (cj_seq ?_))
  refine cj_regionG (gj_step (y_move rfl) rfl rfl rfl (gj_step (y_neq rfl rfl) rfl rfl rfl (gj_nil ?_)))
  refine ej_th ?_
  refine cj_cond rfl (fun h16 => ?_) (fun h16 => ?_)
  · have h16b := h16
    try simp only [sxb] at h16
    have hno := askIE_no h16b
    refine cj_seq ?_
    refine cj_regionG (gj_step (y_move rfl) rfl rfl rfl (gj_step (y_assign rfl) rfl rfl rfl (gj_step (y_assign rfl) rfl rfl rfl (gj_nil ?_))))
    refine ej_th (cj_ret (ej_then_ret ?_))
    have hv : PrnT l x = ⟨#[]⟩ := by rw [PrnT, hno]; rfl
    exact ej_ret2 rfl Tryz.results86 rfl rfl (fun w' hp => ⟨by rw [hv], hp.below⟩)
  · have h16b := h16
    try simp only [sxb] at h16
    have hok := askIE_ok h16b
    obtain ⟨hoT, hcn⟩ := ask_T hok x (by simp)
    have hgO := ask_gram hok
    rw [hok]
    dsimp only [cond, List.cons_append, List.nil_append]
    refine cj_skip (ej_th (cj_seq ?_))
    refine cj_regionG ?_
    refine gj_step (y_move rfl) rfl rfl rfl (gj_step (y_loadN Tryz.isAgg174 Tryz.sizeOf174 rfl) rfl rfl rfl (?_))
    refine gj_step (y_call Tryz.call108 rfl (fun w hp => k_text x m12 (gramM l) w hp.mpS.1 (hp.mpS (b := m12) (ek := ekS) (ev := evC) (l := gramM l)).2 (fun p hp2 => (hgc p.2 (gramM_mem hp2)).mono hp.below) (hx.mono hp.below) hoT hcn)) rfl rfl rfl ?_
    refine gj_step (y_assign rfl) rfl rfl rfl (gj_step (y_assign rfl) rfl rfl rfl (?_))
    refine gj_nil ?_
    refine ej_th (cj_ret ?_)
    have hv : PrnT l x = txtT (gramM l) x.pl := by rw [PrnT, hok]; rfl
    have hz : askIE l [x] = 0 := by simpa using h16b
    exact ej_ret2 rfl Tryz.results86 rfl rfl (fun w' hp => ⟨by rw [hv, hz], hp.below⟩)

end Go.Proofs.YtppfniekcgnmjaaGreat.Pl
namespace Go.Proofs.YtppfniekcgnmjaaGreat.Wa
open Go Go.Sx Go.RowKit Um
structure PairV where
  said : ByteArray
  listed : ByteArray
abbrev encPr (p : PairV) : List Value := [.string p.said, .string p.listed]
def pairB (isW : ByteArray → Bool) (p : PairV) : Bool := isW p.said && isW p.listed
def pairsE (isW : ByteArray → Bool) (l : List PairV) : Int := if decide ((64 : Int) < l.length) || !(l.all (pairB isW)) then 50 else 0
abbrev evM (o : Option Nat) : Value := .map o
abbrev evB (b : Bool) : Value := .bool b
end Go.Proofs.YtppfniekcgnmjaaGreat.Wa
namespace Go.Proofs.YtppfniekcgnmjaaGreat.Wa
open Go Go.Sx Go.RowKit
theorem eq_drop {α : Type} [DecidableEq α] (a b : List α) (k : Nat) (x y : α) (hx : a[k]? = some x) (hy : b[k]? = some y) : decide (a.drop k = b.drop k) = (decide (x = y) && decide (a.drop (k + 1) = b.drop (k + 1))) := by
  obtain ⟨h1, h2⟩ := List.getElem?_eq_some_iff.1 hx
  obtain ⟨h3, h4⟩ := List.getElem?_eq_some_iff.1 hy
  rw [List.drop_eq_getElem_cons h1, h2, List.drop_eq_getElem_cons h3, h4]
  by_cases h : x = y <;> by_cases h5 : a.drop (k + 1) = b.drop (k + 1) <;> simp [h, h5]
theorem eq_len {α : Type} [DecidableEq α] {a b : List α} (h : ¬ (a.length : Int) = b.length) : decide (a = b) = false := decide_eq_false (fun e => h (by rw [e]))
theorem len_of {a b : List Int} (h : ((a.length : Int) == (b.length : Int)) = true) : a.length = b.length := by
  have h2 : (a.length : Int) = b.length := by simpa using h
  omega
theorem same_start (a b : List Int) : (((a.length : Int) == (b.length : Int)) && decide (a.drop 0 = b.drop 0)) = decide (a = b) := by
  rw [List.drop_zero, List.drop_zero]
  by_cases h : (a.length : Int) = b.length
  · rw [show ((a.length : Int) == (b.length : Int)) = true by simpa using h]; rfl
  · rw [show ((a.length : Int) == (b.length : Int)) = false by simpa using h, eq_len h]; rfl
theorem beq_dec {x y : Int} {c : Bool} : ((x == y) && c) = (decide (x = y) && c) := by
  by_cases h : x = y <;> simp [h]
theorem Res.of_lit {α : Type} {w w' : World} {b sz : Nat} {enc : α → List Value} {xs : List α} (h : (litS b sz enc xs).P w' ∧ ∀ i, (litS b sz enc xs).fp i → w.heap.size ≤ i ∧ i < w'.heap.size ∧ ∀ o ∈ ([] : List Fact), ¬ o.fp i) : (sl (fun i => w.heap.size ≤ i ∧ i < w'.heap.size) sz enc (some ⟨b, 0, none⟩) xs).P w' :=
  sl_fp h.1 (fun i hi => ⟨(h.2 i hi).1, (h.2 i hi).2.1⟩)
def ringI (n m : Int) : Int := if m ≤ 0 then 0 else ((n.tmod m) + m).tmod m
theorem ringI_bd (n m : Int) (hm : 1 ≤ m) : 0 ≤ ringI n m ∧ ringI n m < m := by
  unfold ringI
  rw [if_neg (by omega)]
  have h1 : -m < n.tmod m ∧ n.tmod m < m := by
    rcases Int.lt_or_le n 0 with h | h
    · have h2 := Int.tmod_lt_of_pos (-n) (show (0 : Int) < m by omega)
      have h3 := Int.tmod_nonneg m (show 0 ≤ -n by omega)
      rw [Int.neg_tmod] at h2 h3
      omega
    · have h2 := Int.tmod_lt_of_pos n (show (0 : Int) < m by omega)
      have h3 := Int.tmod_nonneg m h
      omega
  exact ⟨Int.tmod_nonneg m (by omega), Int.tmod_lt_of_pos _ (by omega)⟩
def pickI (l : List Int) (i : Int) : Int := if l.length = 0 then 0 else l.getD (ringI i l.length).toNat default
theorem gd_of {α : Type} {l : List α} {i : Nat} {x : α} (d : α) (h : l[i]? = some x) : l.getD i d = x := by rw [List.getD_eq_getElem?_getD, h]; rfl
end Go.Proofs.YtppfniekcgnmjaaGreat.Wa
namespace Go.Proofs.YtppfniekcgnmjaaGreat.Wa
open Go.Sx Go.RowKit
set_option maxRecDepth 20000
theorem fa250_0 : FieldIs Tryz.prog 250 0 0 1 false := ⟨⟨_, _, Tryz.underlying250, rfl, rfl, Tryz.sizeOf9, Tryz.isAgg9, by decide⟩⟩
theorem fa250_1 : FieldIs Tryz.prog 250 1 1 1 false := ⟨⟨_, _, Tryz.underlying250, rfl, rfl, Tryz.sizeOf9, Tryz.isAgg9, by decide⟩⟩
end Go.Proofs.YtppfniekcgnmjaaGreat.Wa
namespace Go.Proofs.YtppfniekcgnmjaaGreat.Wa
open Go.Sx Go.RowKit Um
set_option maxRecDepth 20000
theorem k_IndexP (l : List PairV) (A : Option Addr) (c : Nat) (f : Nat) (fi ca : Array Value) (q : PairV → Bool) (w : World) (hl : Rd w 2 encPr A l) (hen : ∀ args w, (callFunc f args).run Tryz.prog w = .ok (.enter f args) w) (hpp : ∀ x ∈ l, ∀ w1, Grow w w1 → Calls Tryz.prog f (fi ++ [.agg #[.string x.said, .string x.listed]].toArray ++ ca) w1 (fun e w2 => e = .returned (.bool (q x)) ∧ Grow w1 w2)) : Calls Tryz.prog 177 #[.slice A l.length c, .func (.func f) fi ca] w (fun e w' => e = .returned (.int .i64 (fidx q l 0)) ∧ Grow w w') := by
  have hlen := hl.len
  refine enter_pure (args := [.slice A l.length c, .func (.func f) fi ca]) [sl (fun b => b < w.heap.size) 2 encPr A l] Tryz.func177 rfl (by rw [Tryz.ntmps177]; simp) (fun g hg => by simp at hg; subst hg; exact ⟨hl, fun _ h => h⟩) ?_
  refine cj_seq ?_
  refine cj_regionG (gj_step (y_assign rfl) rfl rfl rfl (gj_nil ?_))
  refine ej_th (cj_seq (cj_seq ?_))
  refine cj_regionG (gj_step (y_move rfl) rfl rfl rfl (gj_step (y_lenA Tryz.underlying211 rfl) rfl rfl rfl (gj_step (y_move rfl) rfl rfl rfl (gj_nil ?_))))
  refine ej_th (cj_block ?_)
  refine cj_lpic (X := Nat) [(0, _), (1, _), (7, _)] (fun k => k ≤ l.length ∧ fidx q (l.drop k) k = fidx q l 0) (fun k => [(8, .int .i64 (k : Nat))]) (fun k => l.length - k) 0 (⟨Nat.zero_le _, rfl⟩) ⟨rfl, rfl, rfl, rfl, trivial⟩ ?_
  rintro k ⟨hk, hsk⟩
  dsimp only [List.cons_append, List.nil_append]
  refine cj_seq ?_
  refine cj_regionG (gj_step (y_lss rfl rfl) rfl rfl rfl (gj_nil ?_))
  refine ej_th (cj_seq ?_)
  refine cj_cond rfl (fun h9 => ?_) (fun h9 => ?_)
  · have h9b := h9
    try simp only [sxb] at h9
    obtain ⟨x, hx⟩ : ∃ x, l[k]? = some x := ⟨_, List.getElem?_eq_getElem (by omega)⟩
    rw [fidx_drop q l k x hx] at hsk
    refine cj_skip (ej_th (cj_seq (cj_block (cj_seq ?_))))
    refine cj_regionG (gj_step (y_move rfl) rfl rfl rfl (gj_step (y_assign rfl) rfl rfl rfl (gj_nil ?_)))
    refine ej_th (cj_seq ?_)
    refine cj_regionG ?_
    refine gj_step (y_move rfl) rfl rfl rfl (gj_step (y_move rfl) rfl rfl rfl (gj_step (y_move rfl) rfl rfl rfl (gj_step (y_ixR (reads_sl) Tryz.underlying211 Tryz.sizeOf250 rfl rfl (⟨by omega, by omega⟩)) rfl rfl rfl (gj_step (y_ldW (reads_sl) Tryz.isAgg250 Tryz.sizeOf250 rfl (hx) (fun _ => rfl)) rfl rfl rfl (?_)))))
    refine gj_step (y_callV hen rfl rfl (fun w1 hp => hpp x (List.mem_of_getElem? hx) w1 hp.below)) rfl rfl rfl ?_
    refine gj_nil ?_
    refine ej_th ?_
    refine cj_cond rfl (fun h16 => ?_) (fun h16 => ?_)
    · have h16b := h16
      try simp only [sxb] at h16
      refine cj_seq ?_
      refine cj_regionG (gj_step (y_move rfl) rfl rfl rfl (gj_step (y_assign rfl) rfl rfl rfl (gj_nil ?_)))
      refine ej_th (cj_ret (ej_blk_ret (ej_then_ret (ej_then_ret (ej_blk_ret (ej_then_ret ?_))))))
      refine ej_ret1 rfl Tryz.results177 rfl (fun w' hp => ⟨?_, hp.below⟩)
      rw [← hsk, if_pos h16b]
    · have h16b := h16
      try simp only [sxb] at h16
      refine cj_skip (ej_blk (ej_th ?_))
      refine cj_regionG (gj_step (y_add rfl rfl (by omega)) rfl rfl rfl (gj_step (y_move rfl) rfl rfl rfl (gj_nil ?_)))
      exact ej_nx (k + 1) (by omega) ⟨by omega, by rw [← hsk, if_neg (by rw [h16b]; simp)]⟩ ⟨rfl, rfl, rfl, rfl, trivial⟩
  · have h9b := h9
    try simp only [sxb] at h9
    refine cj_exit (ej_then_exit (ej_then_exit (ej_blk_hit (ej_th (cj_seq ?_)))))
    refine cj_regionG (gj_step (y_assign rfl) rfl rfl rfl (gj_nil ?_))
    refine ej_th (cj_ret ?_)
    refine ej_ret1 rfl Tryz.results177 rfl (fun w' hp => ⟨?_, hp.below⟩)
    rw [← hsk, List.drop_of_length_le (by omega)]; rfl

theorem k_ContP (l : List PairV) (A : Option Addr) (c : Nat) (f : Nat) (fi ca : Array Value) (q : PairV → Bool) (w : World) (hl : Rd w 2 encPr A l) (hen : ∀ args w, (callFunc f args).run Tryz.prog w = .ok (.enter f args) w) (hpp : ∀ x ∈ l, ∀ w1, Grow w w1 → Calls Tryz.prog f (fi ++ [.agg #[.string x.said, .string x.listed]].toArray ++ ca) w1 (fun e w2 => e = .returned (.bool (q x)) ∧ Grow w1 w2)) : Calls Tryz.prog 160 #[.slice A l.length c, .func (.func f) fi ca] w (fun e w' => e = .returned (.bool (l.any q)) ∧ Grow w w') := by
  refine enter_pure (args := [.slice A l.length c, .func (.func f) fi ca]) [sl (fun b => b < w.heap.size) 2 encPr A l] Tryz.func160 rfl (by rw [Tryz.ntmps160]; simp) (fun g hg => by simp at hg; subst hg; exact ⟨hl, fun _ h => h⟩) ?_
  refine cj_seq ?_
  refine cj_regionG (gj_step (y_assign rfl) rfl rfl rfl (gj_nil ?_))
  refine ej_th (cj_seq ?_)
  refine cj_regionG ?_
  refine gj_step (y_move rfl) rfl rfl rfl (gj_step (y_move rfl) rfl rfl rfl (?_))
  refine gj_step (y_call Tryz.call177 rfl (fun w hp => k_IndexP l A c f fi ca q w hp.rd hen (fun x hx w1 hg => hpp x hx w1 (grow_trans hp.below hg)))) rfl rfl rfl ?_
  refine gj_step (y_geq rfl rfl) rfl rfl rfl (gj_step (y_assign rfl) rfl rfl rfl (?_))
  refine gj_nil ?_
  refine ej_th (cj_ret ?_)
  refine ej_ret1 rfl Tryz.results160 rfl (fun w' hp => ⟨?_, hp.below⟩)
  rw [fidx_any q l]

theorem k_every1 (x : PairV) (b f : Nat) (fi ca : Array Value) (q : PairV → Bool) (w : World) (hb : (ownB b (cellsB 251 [.func (.func f) fi ca])).P w) (hen : ∀ args w, (callFunc f args).run Tryz.prog w = .ok (.enter f args) w) (hpp : ∀ w1, Grow w w1 → Calls Tryz.prog f (fi ++ [.agg #[.string x.said, .string x.listed]].toArray ++ ca) w1 (fun e w2 => e = .returned (.bool (q x)) ∧ Grow w1 w2)) : Calls Tryz.prog 161 #[.agg #[.string x.said, .string x.listed], .pointer (some ⟨b, 0, none⟩)] w (fun e w' => e = .returned (.bool (!(q x))) ∧ Grow w w') := by
  refine enter_pure (args := [.agg #[.string x.said, .string x.listed], .pointer (some ⟨b, 0, none⟩)]) [ownB b (cellsB 251 [.func (.func f) fi ca])] Tryz.func161 rfl (by rw [Tryz.ntmps161]; simp) (fun g hg => by
    rw [List.mem_singleton.1 hg]
    exact ⟨hb, fun i hi => by have hi : i = b := hi; subst hi; exact (Array.getElem?_eq_some_iff.1 hb).1⟩) ?_
  refine cj_seq (cj_region ?_)
  refine oj_box rfl rfl rfl (fun b2 => ?_)
  refine oj_step (y_assign rfl) rfl rfl rfl ?_
  refine oj_nil ?_
  refine ej_th (cj_seq ?_)
  refine cj_regionG ?_
  refine gj_step (y_loadS1 Tryz.isAgg251 rfl rfl) rfl rfl rfl (gj_step (y_loadN Tryz.isAgg250 Tryz.sizeOf250 rfl) rfl rfl rfl (?_))
  refine gj_step (y_callV hen rfl rfl (fun w1 hp => hpp w1 hp.below)) rfl rfl rfl ?_
  refine gj_step (y_not rfl) rfl rfl rfl (gj_step (y_assign rfl) rfl rfl rfl (?_))
  refine gj_nil ?_
  refine ej_th (cj_ret ?_)
  exact ej_ret1 rfl Tryz.results161 rfl (fun w' hp => ⟨rfl, hp.below⟩)

theorem k_every (l : List PairV) (A : Option Addr) (c : Nat) (f : Nat) (fi ca : Array Value) (q : PairV → Bool) (w : World) (hl : Rd w 2 encPr A l) (hen : ∀ args w, (callFunc f args).run Tryz.prog w = .ok (.enter f args) w) (hpp : ∀ x ∈ l, ∀ w1, Grow w w1 → Calls Tryz.prog f (fi ++ [.agg #[.string x.said, .string x.listed]].toArray ++ ca) w1 (fun e w2 => e = .returned (.bool (q x)) ∧ Grow w1 w2)) : Calls Tryz.prog 137 #[.slice A l.length c, .func (.func f) fi ca] w (fun e w' => e = .returned (.bool (l.all q)) ∧ Grow w w') := by
  refine enter_pure (args := [.slice A l.length c, .func (.func f) fi ca]) [sl (fun b => b < w.heap.size) 2 encPr A l] Tryz.func137 rfl (by rw [Tryz.ntmps137]; simp) (fun g hg => by simp at hg; subst hg; exact ⟨hl, fun _ h => h⟩) ?_
  refine cj_seq (cj_region ?_)
  refine oj_box rfl rfl rfl (fun b3 => ?_)
  refine oj_step (y_assign rfl) rfl rfl rfl ?_
  refine oj_nil ?_
  refine ej_th (cj_seq ?_)
  refine cj_regionG ?_
  refine gj_step (y_move rfl) rfl rfl rfl (gj_step (y_makeFunc rfl rfl) rfl rfl rfl (?_))
  refine gj_step (y_call Tryz.call160 rfl (fun w hp => k_ContP l A c 161 #[] #[.pointer (some ⟨b3, 0, none⟩)] (fun x => !(q x)) w hp.rd Tryz.call161 (fun x hx w1 hg => k_every1 x b3 f fi ca q w1 ((hp.grow hg).own1) hen (fun w2 hg2 => hpp x hx w2 (grow_trans hp.below (grow_trans hg hg2)))))) rfl rfl rfl ?_
  refine gj_step (y_not rfl) rfl rfl rfl (gj_step (y_assign rfl) rfl rfl rfl (?_))
  refine gj_nil ?_
  refine ej_th (cj_ret ?_)
  refine ej_ret1 rfl Tryz.results137 rfl (fun w' hp => ⟨?_, hp.below⟩)
  rw [any_not, Bool.not_not]

theorem k_ck1 (p : PairV) (w : World) (h1 : p.said.size ≤ 9223372036854775807) (h2 : p.listed.size ≤ 9223372036854775807) : Calls Tryz.prog 138 #[.agg #[.string p.said, .string p.listed]] w (fun e w' => e = .returned (.bool (pairB Pl.isW p)) ∧ Grow w w') := by
  refine enter_pure (args := [.agg #[.string p.said, .string p.listed]]) [] Tryz.func138 rfl (by rw [Tryz.ntmps138]; simp) (by simp) ?_
  refine cj_seq (cj_region ?_)
  refine oj_box rfl rfl rfl (fun b1 => ?_)
  refine oj_step (y_assign rfl) rfl rfl rfl ?_
  refine oj_nil ?_
  refine ej_th (cj_seq ?_)
  refine cj_regionG ?_
  refine gj_step (y_fa0 fa250_0 rfl) rfl rfl rfl (gj_step (y_load1 Tryz.isAgg9 rfl rfl) rfl rfl rfl (?_))
  refine gj_step (y_call Tryz.call22 rfl (fun w hp => Pl.k_IsWord p.said w h1)) rfl rfl rfl ?_
  refine gj_step (y_move rfl) rfl rfl rfl (?_)
  refine gj_g 3 6 9 rfl rfl rfl rfl (fun hg6 => gj_yes rfl rfl rfl (y_fa fa250_1 rfl) rfl rfl (gj_yes rfl rfl rfl (y_load1 Tryz.isAgg9 rfl rfl) rfl rfl (gj_yes rfl rfl rfl (y_call Tryz.call22 rfl (fun w hp => Pl.k_IsWord p.listed w h2)) rfl rfl (gj_nil rfl)))) ?_
  refine gj_step (y_and rfl rfl rfl) rfl rfl rfl (gj_step (y_assign rfl) rfl rfl rfl (?_))
  refine gj_nil ?_
  refine ej_th (cj_ret ?_)
  exact ej_ret1 rfl Tryz.results138 rfl (fun w' hp => ⟨rfl, hp.below⟩)

theorem k_CheckPairs (l : List PairV) (A : Option Addr) (c : Nat) (w : World) (hl : Rd w 2 encPr A l) (hsm : ∀ p ∈ l, p.said.size ≤ 9223372036854775807 ∧ p.listed.size ≤ 9223372036854775807) : Calls Tryz.prog 109 #[.slice A l.length c] w (fun e w' => e = .returned (.int .i64 (pairsE Pl.isW l)) ∧ Grow w w') := by
  have hlen := hl.len
  refine enter_pure (args := [.slice A l.length c]) [sl (fun b => b < w.heap.size) 2 encPr A l] Tryz.func109 rfl (by rw [Tryz.ntmps109]; simp) (fun g hg => by simp at hg; subst hg; exact ⟨hl, fun _ h => h⟩) ?_
  refine cj_seq ?_
  refine cj_regionG (gj_step (y_assign rfl) rfl rfl rfl (gj_nil ?_))
  refine ej_th (cj_seq (cj_seq ?_))
  refine cj_regionG ?_
  refine gj_step (y_move rfl) rfl rfl rfl (gj_step (y_lenA Tryz.underlying211 rfl) rfl rfl rfl (gj_step (y_gtr rfl rfl) rfl rfl rfl (gj_step (y_move rfl) rfl rfl rfl (?_))))
  refine gj_g 3 6 9 rfl rfl rfl rfl (fun hg6 => gj_yes rfl rfl rfl (y_move rfl) rfl rfl (gj_yes rfl rfl rfl (y_call Tryz.call137 rfl (fun w hp => k_every l A c 138 #[] #[] (pairB Pl.isW) w hp.rd Tryz.call138 (fun x hx w1 hg => k_ck1 x w1 (hsm x hx).1 (hsm x hx).2))) rfl rfl (gj_yes rfl rfl rfl (y_not rfl) rfl rfl (gj_nil rfl)))) ?_
  refine gj_step (y_or rfl rfl rfl) rfl rfl rfl (?_)
  refine gj_nil ?_
  refine ej_th ?_
  refine cj_cond rfl (fun h10 => ?_) (fun h10 => ?_)
  · have h10b := h10
    try simp only [sxb] at h10
    refine cj_seq ?_
    refine cj_regionG (gj_step (y_assign rfl) rfl rfl rfl (gj_nil ?_))
    refine ej_th (cj_ret (ej_then_ret ?_))
    refine ej_ret1 rfl Tryz.results109 rfl (fun w' hp => ⟨?_, hp.below⟩)
    rw [pairsE, if_pos h10b]
  · have h10b := h10
    try simp only [sxb] at h10
    refine cj_skip (ej_th (cj_seq ?_))
    refine cj_regionG (gj_step (y_assign rfl) rfl rfl rfl (gj_nil ?_))
    refine ej_th (cj_ret ?_)
    refine ej_ret1 rfl Tryz.results109 rfl (fun w' hp => ⟨?_, hp.below⟩)
    rw [pairsE, if_neg (by rw [h10b]; simp)]

end Go.Proofs.YtppfniekcgnmjaaGreat.Wa
namespace Go.Proofs.YtppfniekcgnmjaaGreat.Wa
open Go.Sx Go.RowKit
set_option maxRecDepth 20000
theorem fa217_0 : FieldIs Tryz.prog 217 0 0 1 false := ⟨⟨_, _, Tryz.underlying217, rfl, rfl, Tryz.sizeOf211, Tryz.isAgg211, by decide⟩⟩
theorem fa217_1 : FieldIs Tryz.prog 217 1 1 1 false := ⟨⟨_, _, Tryz.underlying217, rfl, rfl, Tryz.sizeOf215, Tryz.isAgg215, by decide⟩⟩
theorem st217 : StructIs Tryz.prog 217 [(0, 1), (1, 1)] [.slice none 0 0, .map none] := ⟨⟨_, Tryz.underlying217, fun w => by simp [Tryz.sizeOf211, Tryz.sizeOf215], Tryz.zeroValue217⟩⟩
end Go.Proofs.YtppfniekcgnmjaaGreat.Wa
