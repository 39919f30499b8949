/- Texts of ours, joined: 37 of them. Conditions: none. -/
import Derived.Test.YtppfniekcgnmjaaGreatZd
import Derived.Test.YtppfniekcgnmjaaGreatProg
import Derived.Laws.StructEq
import Derived.Laws.Strings2
import Derived.Laws.Slices
import Derived.Laws.BytesString
import Derived.Shelf.SlSortCmp.NoneTotal
import Derived.WalkKit
import Derived.Shelf.SlGeneric
import Derived.Shelf.SlLaysF
namespace Go.Proofs.YtppfniekcgnmjaaGreat.To
open Go Go.Sx Go.RowKit
theorem eq_drop {α : Type} [DecidableEq α] (a b : List α) (k : Nat) (x y : α) (hx : a[k]? = some x) (hy : b[k]? = some y) : decide (a.drop k = b.drop k) = (decide (x = y) && decide (a.drop (k + 1) = b.drop (k + 1))) := by
  obtain ⟨h1, h2⟩ := List.getElem?_eq_some_iff.1 hx
  obtain ⟨h3, h4⟩ := List.getElem?_eq_some_iff.1 hy
  rw [List.drop_eq_getElem_cons h1, h2, List.drop_eq_getElem_cons h3, h4]
  by_cases h : x = y <;> by_cases h5 : a.drop (k + 1) = b.drop (k + 1) <;> simp [h, h5]
theorem eq_len {α : Type} [DecidableEq α] {a b : List α} (h : ¬ (a.length : Int) = b.length) : decide (a = b) = false := decide_eq_false (fun e => h (by rw [e]))
theorem len_of {a b : List Int} (h : ((a.length : Int) == (b.length : Int)) = true) : a.length = b.length := by
  have h2 : (a.length : Int) = b.length := by simpa using h
  omega
theorem same_start (a b : List Int) : (((a.length : Int) == (b.length : Int)) && decide (a.drop 0 = b.drop 0)) = decide (a = b) := by
  rw [List.drop_zero, List.drop_zero]
  by_cases h : (a.length : Int) = b.length
  · rw [show ((a.length : Int) == (b.length : Int)) = true by simpa using h]; rfl
  · rw [show ((a.length : Int) == (b.length : Int)) = false by simpa using h, eq_len h]; rfl
theorem beq_dec {x y : Int} {c : Bool} : ((x == y) && c) = (decide (x = y) && c) := by
  by_cases h : x = y <;> simp [h]
def ringI (n m : Int) : Int := if m ≤ 0 then 0 else ((n.tmod m) + m).tmod m
theorem ringI_bd (n m : Int) (hm : 1 ≤ m) : 0 ≤ ringI n m ∧ ringI n m < m := by
  unfold ringI
  rw [if_neg (by omega)]
  have h1 : -m < n.tmod m ∧ n.tmod m < m := by
    rcases Int.lt_or_le n 0 with h | h
    · have h2 := Int.tmod_lt_of_pos (-n) (show (0 : Int) < m by omega)
      have h3 := Int.tmod_nonneg m (show 0 ≤ -n by omega)
      rw [Int.neg_tmod] at h2 h3
      omega
    · have h2 := Int.tmod_lt_of_pos n (show (0 : Int) < m by omega)
      have h3 := Int.tmod_nonneg m h
      omega
  exact ⟨Int.tmod_nonneg m (by omega), Int.tmod_lt_of_pos _ (by omega)⟩
theorem gd_of {α : Type} {l : List α} {i : Nat} {x : α} (d : α) (h : l[i]? = some x) : l.getD i d = x := by rw [List.getD_eq_getElem?_getD, h]; rfl
end Go.Proofs.YtppfniekcgnmjaaGreat.To
namespace Go.Proofs.YtppfniekcgnmjaaGreat.To
open Go Go.Sx Go.RowKit Um
end Go.Proofs.YtppfniekcgnmjaaGreat.To
namespace Go.Proofs.YtppfniekcgnmjaaGreat.To
open Go.Sx Go.RowKit
set_option maxRecDepth 20000

end Go.Proofs.YtppfniekcgnmjaaGreat.To
namespace Go.Proofs.YtppfniekcgnmjaaGreat.To
open Go.Sx Go.RowKit Um
set_option maxRecDepth 20000
theorem k_Same (a b : List Int) (Aa Ab : Option Addr) (ca cb : Nat) (w : World) (ha : Rd w 1 enInt Aa a) (hb : Rd w 1 enInt Ab b) : Calls Tryz.prog 31 #[.slice Aa a.length ca, .slice Ab b.length cb] w (fun e w' => e = .returned (.bool (decide (a = b))) ∧ Grow w w') := by
  have hla := ha.len
  have hlb := hb.len
  refine enter_pure (args := [.slice Aa a.length ca, .slice Ab b.length cb]) [sl (fun b => b < w.heap.size) 1 enInt Aa a, sl (fun b => b < w.heap.size) 1 enInt Ab b] Tryz.func31 rfl (by rw [Tryz.ntmps31]; simp) (fun g hg => by simp at hg; rcases hg with rfl | rfl; exact ⟨ha, fun _ h => h⟩; exact ⟨hb, fun _ h => h⟩) ?_
  refine cj_seq ?_
  refine cj_regionG (gj_step (y_assign rfl) rfl rfl rfl (gj_nil ?_))
  refine ej_th (cj_seq ?_)
  refine cj_regionG (gj_step (y_move rfl) rfl rfl rfl (gj_step (y_lenA Tryz.underlying23 rfl) rfl rfl rfl (gj_step (y_move rfl) rfl rfl rfl (gj_step (y_lenA Tryz.underlying23 rfl) rfl rfl rfl (gj_step (y_eql rfl rfl) rfl rfl rfl (gj_step (y_assign rfl) rfl rfl rfl (gj_nil ?_)))))))
  refine ej_th (cj_seq (cj_seq ?_))
  refine cj_regionG (gj_step (y_assign rfl) rfl rfl rfl (gj_nil ?_))
  refine ej_th (cj_block ?_)
  refine cj_lpic (X := Nat × Bool) [(0, _), (1, _), (4, _)] (fun ⟨k, ok⟩ => k ≤ a.length ∧ (ok = true → a.length = b.length) ∧ (ok && decide (a.drop k = b.drop k)) = decide (a = b)) (fun ⟨k, ok⟩ => [(5, .bool ok), (6, .int .i64 (k : Nat))]) (fun ⟨k, ok⟩ => a.length - k) (0, (a.length : Int) == (b.length : Int)) (⟨Nat.zero_le _, fun h => len_of h, same_start a b⟩) ⟨rfl, rfl, rfl, rfl, rfl, trivial⟩ ?_
  rintro ⟨k, ok⟩ ⟨hk, hle, hsk⟩
  dsimp only [List.cons_append, List.nil_append]
  refine cj_seq (cj_seq ?_)
  refine cj_regionG (gj_step (y_move rfl) rfl rfl rfl (gj_step (y_move rfl) rfl rfl rfl (gj_g 4 13 17 rfl rfl rfl rfl (fun hg13 => gj_yes rfl rfl rfl (y_move rfl) rfl rfl (gj_yes rfl rfl rfl (y_move rfl) rfl rfl (gj_yes rfl rfl rfl (y_lenA Tryz.underlying23 rfl) rfl rfl (gj_yes rfl rfl rfl (y_lss rfl rfl) rfl rfl (gj_nil rfl))))) (gj_step (y_and rfl rfl rfl) rfl rfl rfl (gj_nil ?_)))))
  refine ej_th ?_
  refine cj_cond rfl (fun h18 => ?_) (fun h18 => ?_)
  · have h18b := h18
    try simp only [sxb] at h18
    rw [Bool.and_eq_true, decide_eq_true_eq] at h18b
    have hok := h18b.1
    have hl2 := hle hok
    have hk2 := h18b.2
    obtain ⟨x, hx⟩ : ∃ x, a[k]? = some x := ⟨_, List.getElem?_eq_getElem (by omega)⟩
    obtain ⟨y, hy⟩ : ∃ y, b[k]? = some y := ⟨_, List.getElem?_eq_getElem (by omega)⟩
    rw [eq_drop a b k x y hx hy, hok, Bool.true_and] at hsk
    refine cj_skip (ej_th (cj_seq (cj_block ?_)))
    refine cj_draw (by kernel_rfl) (by kernel_rfl) (gj_step (y_move rfl) rfl rfl rfl (gj_step (y_move rfl) rfl rfl rfl (gj_step (y_ixR (reads_sl) Tryz.underlying23 Tryz.sizeOf3 rfl rfl (⟨by omega, by omega⟩)) rfl rfl rfl (gj_step (y_ld0 (reads_sl) Tryz.isAgg3 rfl (hx) rfl) rfl rfl rfl (gj_step (y_move rfl) rfl rfl rfl (gj_step (y_move rfl) rfl rfl rfl (gj_step (y_ixR (reads_sl) Tryz.underlying23 Tryz.sizeOf3 rfl rfl (⟨by omega, by omega⟩)) rfl rfl rfl (gj_step (y_ld0 (reads_sl) Tryz.isAgg3 rfl (hy) rfl) rfl rfl rfl (gj_step (y_eql rfl rfl) rfl rfl rfl (gj_step (y_assign rfl) rfl rfl rfl (gj_nil ?_)))))))))))
    refine ej_blk (ej_th ?_)
    refine cj_regionG (gj_step (y_move rfl) rfl rfl rfl (gj_step (y_add rfl rfl (by omega)) rfl rfl rfl (gj_step (y_assign rfl) rfl rfl rfl (gj_nil ?_))))
    exact ej_nx (k + 1, x == y) (by simp only; omega) ⟨by first | omega | (simp only; omega), fun _ => hle hok, by rw [← hsk, beq_dec]⟩ ⟨rfl, rfl, rfl, rfl, rfl, trivial⟩
  · have h18b := h18
    try simp only [sxb] at h18
    rw [Bool.and_eq_false_iff, decide_eq_false_iff_not] at h18b
    refine cj_exit (ej_then_exit (ej_then_exit (ej_blk_hit (ej_th (cj_seq ?_)))))
    refine cj_regionG (gj_step (y_move rfl) rfl rfl rfl (gj_step (y_assign rfl) rfl rfl rfl (gj_nil ?_)))
    refine ej_th (cj_ret ?_)
    refine ej_ret1 rfl Tryz.results31 rfl (fun w' hp => ⟨?_, hp.below⟩)
    rw [← hsk]
    cases hok : ok with
    | false => rfl
    | true =>
      have hl2 := hle hok
      have hk2 : a.length ≤ k := by rcases h18b with h | h; rw [hok] at h; cases h; omega
      rw [List.drop_of_length_le hk2, List.drop_of_length_le (show b.length ≤ k by omega)]; rfl

end Go.Proofs.YtppfniekcgnmjaaGreat.To
namespace Go.Sx
open Go.RowKit
section
variable {C : Cx} {Q : Exit → Act → World → Prop} {L : Regs} {O S : List Fact} {ops : Array Oper} {rest : List Oper} {ty : TypeId} {pos : String} {aft : Array Edge} {dst : Option Tmp} {gu : Option (Nat × Bool)} {t : TypeId} {x y : Operand}
end
end Go.Sx
namespace Go.Sx
open Go.RowKit
section
variable {C : Cx} {Q : Exit → Act → World → Prop} {L : Regs} {O S : List Fact} {ops : Array Oper} {rest : List Oper}
end
end Go.Sx
namespace Go.Sx
open Go.RowKit
/-- W' is W, but for the block b, and may have grown. -/
structure PutB (b : Nat) (o : Obj) (W W' : World) : Prop where
  os : W'.os = W.os
  tape : W'.tape = W.tape
  output : W'.output = W.output
  size : W.heap.size ≤ W'.heap.size
  same : ∀ i, i < W.heap.size → i ≠ b → W'.heap[i]? = W.heap[i]?
  at_ : W'.heap[b]? = some o
/-- As Iter; the iterator's own block b holds 'ob k' when the k-th element is handed over. -/
def IterC {α : Type} (P : Program) (gf : Nat) (lb : Array Value) (encs : α → List Value) (xs : List α) (b : Nat) (ob : Nat → Obj) (Sit : List Fact) : Prop :=
  ∀ (l : Nat) (J : Nat → Obj → World → Prop) (Jx : World → Prop) (W : World), (∀ k o W W', J k o W → Grow W W' → J k o W') → (∀ k o o' W W', J k o W → PutB b o' W W' → J k o' W') →
    (∀ k o W, J k o W → W.heap[b]? = some o ∧ ∀ g ∈ Sit, g.P W ∧ ∀ i, g.fp i → i < W.heap.size ∧ i ≠ b) → (∀ W W', Jx W → Grow W W' → Jx W') →
    (∀ k x W, xs[k]? = some x → J k (ob k) W → YieldAt (FR none) 0 P l (encs x).toArray W (fun e W' => (e = .returned (.bool true) ∧ J (k + 1) (ob k) W') ∨ (e = .returned (.bool false) ∧ Jx W'))) → J 0 (ob 0) W →
    Calls P gf (#[.func (.yield l) #[] #[]] ++ lb) W (fun e W' => (∃ v, e = .returned v) ∧ (J xs.length (ob xs.length) W' ∨ Jx W'))

section
variable {P : Program} {F : Nat → Prop} {w0 : World} {N : Nat} {S : List Fact}
/-- THE CALLER'S RULE. -/
theorem cj_rangeC {α Y Z : Type} {g : Operand} {ps : List Tmp} {assign body : Code} {Q : Exit → Act → World → Prop} {L : Regs} {O : List Fact} {gf b : Nat} {ob : Nat → Obj} {lb : Array Value} {encs : α → List Value} {xs : List α} {Sit : List Fact}
    (hseq : IterC P gf lb encs xs b ob Sit) (inv : Nat → Y → Prop) (Ox : Nat → Y → List Fact) (cz : Z → Code) (Oz : Z → List Fact) (y0 : Y) (h0 : inv 0 y0)
    (hg : val L g = some (.func (.func gf) #[] lb)) (hf : ∀ args w, (callFunc gf args).run P w = .ok (.enter gf args) w) (hps : ∀ x, (encs x).length = ps.length) (hpN : (ps.all fun p => Nat.blt p N) = true) [hO : SubO (ownB b (ob 0) :: Ox 0 y0) O] [hSit : SubO Sit S]
    (round : ∀ (l Db : Nat) (r0 r1 : Obj) k x y, xs[k]? = some x → inv k y → CJ (CR P F w0 N l) assign (BegQ (CR P F w0 N l) S l r0 r1 body (BodyQ F w0 S l Db r1 (inv (k + 1)) (fun y => ownB b (ob k) :: Ox (k + 1) y) cz Oz)) (parR (ps.zip (encs x)) L) (ownB l r0 :: ownB Db (.deferred (some [])) :: ownB b (ob k) :: Ox k y) S)
    (done : ∀ Db y, inv xs.length y → EJ ⟨P, none, F, w0, N, [⟨.collected Db, #[]⟩]⟩ Q .normal L (ownB Db (.deferred (some [])) :: ownB b (ob xs.length) :: Ox xs.length y) S)
    (stop : ∀ Db z, CJ ⟨P, none, F, w0, N, [⟨.collected Db, #[]⟩]⟩ (cz z) Q L (ownB Db (.deferred (some [])) :: Oz z) S) :
    CJ ⟨P, none, F, w0, N, []⟩ (.rangeFunc g ps.toArray assign body) Q L O S := by
  intro a w hr hp
  refine wpIn_rangeFunc (n := 0) ?_
  intro fn hfn
  obtain ⟨rec, hrec⟩ : ∃ rec : LoopState → Option Code → Loop, rec = fun st pe => { state := st, pending := pe, fn, tmps := a.tmps, params := ps.toArray, assign, body, defers := w.heap.size } := ⟨_, rfl⟩
  obtain ⟨W1, hW1⟩ : ∃ W1, (w.alloc (.deferred (some []))).alloc (.loop (rec .ready none)) = W1 := ⟨_, rfl⟩
  have hpW : Hp F w0 (ownB (w.heap.size + 1) (.loop (rec .ready none)) :: ownB w.heap.size (.deferred (some [])) :: ownB b (ob 0) :: Ox 0 y0) S W1 := by
    rw [← hW1]
    have h1 : Hp F w0 (ownB w.heap.size (.deferred (some [])) :: ownB b (ob 0) :: Ox 0 y0) S (w.alloc (.deferred (some []))) :=
      (hp.sub hO.sub (fun _ h => h)).addO ((Below.refl _ _).alloc (Nat.le_refl _) _) _ (heap_alloc_new w _) (fun b hb => by
        have : b = w.heap.size := hb
        subst this; simp)
    refine h1.addO ((Below.refl _ _).alloc (Nat.le_refl _) _) _ ?_ (fun b hb => by
      have : b = w.heap.size + 1 := hb
      subst this; simp)
    have := heap_alloc_new (w.alloc (.deferred (some []))) (.loop (rec .ready none))
    rwa [World.size_alloc] at this
  refine ⟨w.heap.size + 1, [{ target := .collected w.heap.size, args := #[] }], W1, { target := .fn (.func gf) lb, args := #[.func (.yield (w.heap.size + 1)) #[] #[]] }, W1, gf,
    #[.func (.yield (w.heap.size + 1)) #[] #[]] ++ lb, W1, ?_, ?_, fun _ _ => trivial, ?_, (fun h => by cases h), ?_⟩
  · rw [← hW1, hrec]; exact run_enterLoop_outer _ _ _ _ _
  · simp only [resolve, hr.val hg]
    simp [go_sem]
  · simp [invoke, hf]
  · refine callsIn_FR.2 ((hseq (w.heap.size + 1) (fun k o W => ∃ y, inv k y ∧ Hp F w0 (ownB (w.heap.size + 1) (.loop (rec .ready none)) :: ownB w.heap.size (.deferred (some [])) :: ownB b o :: Ox k y) S W)
      (fun W => ∃ z, Hp F w0 (ownB (w.heap.size + 1) (.loop (rec .done (some (cz z)))) :: ownB w.heap.size (.deferred (some [])) :: Oz z) S W) W1 ?_ ?_ ?_ ?_ ?_ ⟨y0, h0, hpW⟩).mono ?_)
    · rintro k o W W' ⟨y, hi, h⟩ hgr; exact ⟨y, hi, h.grow hgr⟩
    · rintro k o o' W W' ⟨y, hi, h⟩ hput
      have hlt : b < W.heap.size := ((h.own (ownB b o) (.tail _ (.tail _ (.head _)))).2 b rfl).1
      refine ⟨y, hi, h.write (f := ownB b o) (f' := ownB b o') (.tail _ _ _ _ _ (.tail _ _ _ _ _ (.head _ _ _))) hput.os hput.tape hput.output hput.size (fun i hi hne => hput.same i hi (fun e => hne e)) hput.at_ (fun i hi => ?_)⟩
      have : i = b := hi
      subst this
      exact ⟨Nat.lt_of_lt_of_le hlt hput.size, .inl rfl⟩
    · rintro k o W ⟨y, hi, h⟩
      refine ⟨h.at (.tail _ (.tail _ (.head _))), fun g hg' => ?_⟩
      have h9 := h.shared g (hSit.sub.subset hg')
      exact ⟨h9.1, fun i hi => ⟨h9.2.1 i hi, fun e => h9.2.2 (ownB b o) (.tail _ (.tail _ (.head _))) i hi e⟩⟩
    · rintro W W' ⟨z, h⟩ hgr; exact ⟨z, h.grow hgr⟩
    · rintro k x W hx ⟨y, hi, h⟩
      have hl : W.heap[w.heap.size + 1]? = some (.loop (rec .ready none)) := h.at (List.mem_cons_self ..)
      have hy := run_yield (P := P) (args := (encs x).toArray) hl (by rw [hrec]; simpa using hps x)
      rw [hrec] at hy
      refine ⟨fn, _, assign, body, hy, roundIn_of_wpIn hfn ?_⟩
      have hreg : RegsOk N [] (parR (ps.zip (encs x)) L) ⟨(ps.toArray.zip (encs x).toArray).foldl (fun tmps (t, a) => tmps.setIfInBounds t a) a.tmps, []⟩ := by
        have h1 := parR_ok (D := []) (ps.zip (encs x)) L a.tmps (fun p hp => by
          have := List.all_eq_true.1 hpN p.1 (List.of_mem_zip hp).1
          simpa [Nat.blt_eq] using this) ⟨rfl, hr.size, hr.look⟩
        have e : (ps.toArray.zip (encs x).toArray).foldl (fun tmps (t, a) => tmps.setIfInBounds t a) a.tmps = (ps.zip (encs x)).foldl (fun t p => t.setIfInBounds p.1 p.2) a.tmps := by simp
        rw [e]; exact h1
      refine wpIn_mono (round _ w.heap.size (.loop (rec .ready none)) (.loop (rec .busy none)) k x y hx hi _ W hreg h) ?_
      intro e a1 w1 hq
      cases e <;> first | exact (show False from hq).elim | skip
      obtain ⟨L1, O1, O2, hr1, hp1, hrep, hb⟩ := hq
      have hl1 : w1.heap[w.heap.size + 1]? = some (.loop (rec .ready none)) := hp1.at hrep.mem
      refine ⟨_, run_beginRound hl1 (by rw [hrec]), ?_⟩
      have hp2 := hp1.put hrep
      have hbusy : ({ rec .ready none with state := .busy } : Loop) = rec .busy none := by rw [hrec]
      rw [hbusy]
      refine wpIn_mono (hb a1 _ hr1 hp2) ?_
      intro e a2 w2 hq2
      have fin : ∀ (jump : Option Code) (Oq : List Fact), Hp F w0 (ownB (w.heap.size + 1) (.loop (rec .busy none)) :: ownB w.heap.size (.deferred (some [])) :: Oq) S w2 →
          ∃ w3, (Instr.endRound (w.heap.size + 1) jump).run P w2 = .ok (.bool jump.isNone) w3 ∧ Hp F w0 (ownB (w.heap.size + 1) (.loop (rec (if jump.isNone then .ready else .done) jump)) :: ownB w.heap.size (.deferred (some [])) :: Oq) S w3 := fun jump Oq hq3 => by
        have hl2 : w2.heap[w.heap.size + 1]? = some (.loop (rec .busy none)) := hq3.at (List.mem_cons_self ..)
        refine ⟨_, run_endRound (P := P) jump hl2, ?_⟩
        have hb2 : ({ rec .busy none with state := if jump.isNone then .ready else .done, pending := jump } : Loop) = rec (if jump.isNone then .ready else .done) jump := by rw [hrec]
        rw [hb2]
        exact hq3.put (.head _ _ _)
      cases e with
      | normal =>
        obtain ⟨y', hi', hp3⟩ := hq2
        obtain ⟨w3, hr3, hp4⟩ := fin none _ hp3
        exact ⟨_, w3, hr3, .inl ⟨rfl, y', hi', hp4⟩⟩
      | ret =>
        obtain ⟨z, hz, hp3⟩ := hq2
        obtain ⟨w3, hr3, hp4⟩ := fin (some .ret) _ hp3
        exact ⟨_, w3, hr3, .inr ⟨rfl, z, by rw [hz]; exact hp4⟩⟩
      | exit id =>
        obtain ⟨z, hz, hp3⟩ := hq2
        obtain ⟨w3, hr3, hp4⟩ := fin (some (.exit id)) _ hp3
        exact ⟨_, w3, hr3, .inr ⟨rfl, z, by rw [hz]; exact hp4⟩⟩
      | goto t => exact (show False from hq2).elim
      | panic ch => exact (show False from hq2).elim
      | outgrown => exact (show False from hq2).elim
    · rintro e W2 ⟨⟨v, rfl⟩, h⟩
      have hd : ∀ (Db : Nat), RegsOk N [⟨.collected Db, #[]⟩] L { a with defers := [{ target := .collected Db, args := #[] }] ++ a.defers } := fun Db => by
        have := hr.defers
        exact ⟨by show [_] ++ a.defers = _; rw [this]; rfl, hr.size, hr.look⟩
      rcases h with ⟨y, hi, h⟩ | ⟨z, h⟩
      · have hl : W2.heap[w.heap.size + 1]? = some (.loop (rec .ready none)) := h.at (List.mem_cons_self ..)
        refine ⟨none, _, (by have := run_endLoop (P := P) hl (by rw [hrec]; simp); rw [hrec] at this; exact this), ?_⟩
        exact done w.heap.size y hi _ _ (hd _) ((h.put (.head _ _ _)).sub (List.sublist_cons_self ..) (fun _ h => h))
      · have hl : W2.heap[w.heap.size + 1]? = some (.loop (rec .done (some (cz z)))) := h.at (List.mem_cons_self ..)
        refine ⟨some (cz z), _, (by have := run_endLoop (P := P) hl (by rw [hrec]; simp); rw [hrec] at this; exact this), ?_⟩
        exact stop w.heap.size z _ _ (hd _) ((h.put (.head _ _ _)).sub (List.sublist_cons_self ..) (fun _ h => h))
end

section
variable {C : Cx} {Q : Exit → Act → World → Prop} {L : Regs} {O S : List Fact}
/-- From here on, the block b is one's own (nothing that is known else lies there). -/
theorem cj_ownS {W : World} {cd : Code} (b : Nat) (o : Obj) (S' : List Fact) (hb : b < W.heap.size) (hm : ownB b o ∈ S) (hS : ∀ g ∈ S', g ∈ S ∧ ∀ i, g.fp i → i ≠ b) (k : CJ ⟨C.P, C.ro, fun i => i < W.heap.size ∧ i ≠ b, W, C.N, C.D⟩ cd Q L [ownB b o] S') : CJ (C.rb W) cd Q L O S := by
  intro a w hr hp
  refine k a w hr ⟨hp.os, hp.tape, hp.output, hp.size, fun i hi => ⟨hi.1, (hp.fr i hi.1).2⟩, fun g hg => ?_, by simp, fun g hg => ⟨(hp.shared g (hS g hg).1).1, (hp.shared g (hS g hg).1).2.1, fun q hq i hi hqi => ?_⟩⟩
  · rw [List.mem_singleton.1 hg]
    refine ⟨(hp.shared _ hm).1, fun i hi => ?_⟩
    have : i = b := hi
    subst this
    exact ⟨Nat.lt_of_lt_of_le hb hp.size, fun h => h.2 rfl⟩
  · rw [List.mem_singleton.1 hq] at hqi
    exact (hS g hg).2 i hi hqi
theorem Hp.putB {W w : World} {b : Nat} {o : Obj} (hp : Hp (fun i => i < W.heap.size ∧ i ≠ b) W O S w) (h : ownB b o ∈ O) : PutB b o W w :=
  ⟨hp.os, hp.tape, hp.output, hp.size, fun i h1 h2 => (hp.fr i ⟨h1, h2⟩).2, (hp.own _ h).1⟩
/-- The end of a round that has written to its own block. -/
theorem ej_nxH {F' : Nat → Prop} {w0' : World} {X : Type} {inv : X → Prop} {Lx : X → Regs} {J : X → World → Prop} {μ : X → Nat} {m : Nat} (x' : X) (hm : μ x' < m) (hi : inv x') (hL : subR L (Lx x')) (hJ : ∀ w, Hp F' w0' O S w → J x' w) :
    EJ ⟨C.P, C.ro, F', w0', C.N, C.D⟩ (Exit.then (fun a w => ∃ x', μ x' < m ∧ LoopB C inv Lx J x' a w) Q) .normal L O S := fun _ w hr hp => ⟨x', hm, hi, hr.subR hL, hJ w hp⟩
end
end Go.Sx
namespace Go.Sx
open Go.RowKit
abbrev enB (n : Nat) : List Value := [.int .u8 (n : Nat)]
theorem enB_len (x : Nat) : (enB x).length = 1 := rfl
def bytesN (l : List Nat) : ByteArray := ⟨(l.map UInt8.ofNat).toArray⟩
theorem foldl_push : ∀ (l : List Nat) (s : ByteArray), (l.map (fun n : Nat => (n : Int))).foldl (fun r (n : Int) => r.push (UInt8.ofNat n.toNat)) s = ⟨s.data ++ (l.map UInt8.ofNat).toArray⟩
  | [], s => by simp
  | n :: l, s => by
    rw [List.map_cons, List.foldl_cons, foldl_push l]
    simp [ByteArray.push]
theorem replicate_enB (n : Nat) : (List.replicate n (0 : Nat)).flatMap enB = List.replicate n (.int .u8 0) := by
  induction n with
  | zero => rfl
  | succ n ih => rw [List.replicate_succ, List.flatMap_cons, ih, List.replicate_succ]; rfl
section
variable {C : Cx} {L : Regs} {O S : List Fact} {ty : TypeId} {pos : String} {aft : Array Edge} {dst : Option Tmp} {gu : Option (Nat × Bool)} {t t' : TypeId} {x : Operand}
theorem y_bytesS {e m c : Nat} {A : Option Addr} {xs : List Nat} (hr0 : Reads C O S 1 enB A xs) (hne : xs ≠ []) (hm : m = xs.length) (hs : C.P.underlying t = some (.slice e)) (he : C.P.underlying e = some (.int .u8)) (hd : C.P.underlying t' = some .string) (hx : val L x = some (.slice A m c)) :
    Yi C ⟨dst, .convert t t' x, ty, pos, aft, gu⟩ L O S (.string (bytesN xs)) :=
  yi_val (by intro c h; cases h) fun a w hr hp => by
    subst hm
    obtain ⟨ad, rfl, hc⟩ := hr0 w hp hne
    have hl : (loadCells ad xs.length).run C.P w = .ok ((xs.map (fun n : Nat => (n : Int))).map (Value.int .u8)).toArray w := by
      have h1 := run_loadCells_list (P := C.P) w ad ((xs.map (fun n : Nat => (n : Int))).map (Value.int .u8)) fun j v hj => by
        rw [List.getElem?_map, List.getElem?_map] at hj
        cases hxj : xs[j]? with
        | none => rw [hxj] at hj; cases hj
        | some u =>
          rw [hxj] at hj
          have h2 := hc j u 0 (.int .u8 (u : Nat)) hxj rfl
          rw [Nat.mul_one, Nat.add_zero] at h2
          rw [h2]; exact hj
      rw [List.length_map, List.length_map] at h1
      exact h1
    have h3 := run_bytesToString (P := C.P) w ad xs.length c _ hl
    rw [foldl_push] at h3
    simp only [execOp, hr.val hx]
    rw [show (bytesN xs) = (⟨ByteArray.empty.data ++ (xs.map UInt8.ofNat).toArray⟩ : ByteArray) by simp [bytesN]]
    simp [run_convert_bytes_string w t t' e (some ad) xs.length c hs he hd, h3]
end
end Go.Sx
namespace Go.Proofs.YtppfniekcgnmjaaGreat.Tk
open Go Go.Sx Go.RowKit Um
theorem wrap8 {n : Int} (h : 0 ≤ n) (h2 : n < 256) : IntKind.u8.wrap n = n := by
  simp only [IntKind.wrap, IntKind.bits, IntKind.signed]
  simp
  omega
/-- The digits of a number, the last one first, with their places. -/
def digL (n m : Nat) : List (Nat × Nat) := (List.range m).map fun i => (i, n / 10 ^ i % 10)
theorem digL_get {n m k : Nat} {x : Nat × Nat} (h : (digL n m)[k]? = some x) : k < m ∧ x = (k, n / 10 ^ k % 10) := by
  unfold digL at h
  rw [List.getElem?_map] at h
  cases hk : (List.range m)[k]? with
  | none => rw [hk] at h; cases h
  | some j =>
    rw [hk] at h
    obtain ⟨h1, h2⟩ := List.getElem?_eq_some_iff.1 hk
    rw [List.length_range] at h1
    rw [List.getElem_range] at h2
    subst h2
    exact ⟨h1, (Option.some.inj h).symm⟩
theorem digL_at (n : Nat) {m k : Nat} (h : k < m) : (digL n m)[k]? = some (k, n / 10 ^ k % 10) := by
  unfold digL
  rw [List.getElem?_map, List.getElem?_range h]; rfl
theorem digL_len (n m : Nat) : (digL n m).length = m := by simp [digL]
/-- the code's bytes once the last k ones are there -/
def codF (full k : Nat) : List Nat := (List.range 10).map fun j => if 10 - k ≤ j then 48 + full / 10 ^ (9 - j) % 10 else 0
theorem codF_len (full k : Nat) : (codF full k).length = 10 := by simp [codF]
theorem codF_0 (full : Nat) : codF full 0 = List.replicate 10 0 := rfl
theorem codF_set (full : Nat) {k : Nat} (h : k < 10) : (codF full k).set (9 - k) (48 + full / 10 ^ k % 10) = codF full (k + 1) := by
  apply List.ext_getElem?
  intro j
  rw [List.getElem?_set, codF_len]
  unfold codF
  rw [List.getElem?_map, List.getElem?_map]
  by_cases hj : j < 10
  · rw [List.getElem?_range hj, Option.map_some, Option.map_some]
    by_cases e : 9 - k = j
    · rw [if_pos e, if_pos (by omega), if_pos (by omega), show 9 - j = k by omega]
    · rw [if_neg e]
      by_cases h2 : 10 - k ≤ j
      · rw [if_pos h2, if_pos (by omega)]
      · rw [if_neg h2, if_neg (by omega)]
  · rw [List.getElem?_eq_none (by simp; omega), if_neg (by omega)]; rfl
/-- the number that a code's ten digits say -/
def fullN (n : Nat) : Nat := 100 * n + 98 - 100 * n % 97
def codeS (n : Nat) : ByteArray := bytesN (codF (fullN n) 10)
theorem full_bd {n : Nat} (h : n ≤ 99999999) : fullN n < 10000000000 := by unfold fullN; omega
def CodS (n : Int) : ByteArray := if btw 1 n 99999999 then codeS n.toNat else ⟨#[]⟩
def CodE (n : Int) : Int := if btw 1 n 99999999 then 0 else 7
end Go.Proofs.YtppfniekcgnmjaaGreat.Tk
namespace Go.Proofs.YtppfniekcgnmjaaGreat.Tk
open Go Go.Sx Go.RowKit
theorem eq_drop {α : Type} [DecidableEq α] (a b : List α) (k : Nat) (x y : α) (hx : a[k]? = some x) (hy : b[k]? = some y) : decide (a.drop k = b.drop k) = (decide (x = y) && decide (a.drop (k + 1) = b.drop (k + 1))) := by
  obtain ⟨h1, h2⟩ := List.getElem?_eq_some_iff.1 hx
  obtain ⟨h3, h4⟩ := List.getElem?_eq_some_iff.1 hy
  rw [List.drop_eq_getElem_cons h1, h2, List.drop_eq_getElem_cons h3, h4]
  by_cases h : x = y <;> by_cases h5 : a.drop (k + 1) = b.drop (k + 1) <;> simp [h, h5]
theorem eq_len {α : Type} [DecidableEq α] {a b : List α} (h : ¬ (a.length : Int) = b.length) : decide (a = b) = false := decide_eq_false (fun e => h (by rw [e]))
theorem len_of {a b : List Int} (h : ((a.length : Int) == (b.length : Int)) = true) : a.length = b.length := by
  have h2 : (a.length : Int) = b.length := by simpa using h
  omega
theorem same_start (a b : List Int) : (((a.length : Int) == (b.length : Int)) && decide (a.drop 0 = b.drop 0)) = decide (a = b) := by
  rw [List.drop_zero, List.drop_zero]
  by_cases h : (a.length : Int) = b.length
  · rw [show ((a.length : Int) == (b.length : Int)) = true by simpa using h]; rfl
  · rw [show ((a.length : Int) == (b.length : Int)) = false by simpa using h, eq_len h]; rfl
theorem beq_dec {x y : Int} {c : Bool} : ((x == y) && c) = (decide (x = y) && c) := by
  by_cases h : x = y <;> simp [h]
def ringI (n m : Int) : Int := if m ≤ 0 then 0 else ((n.tmod m) + m).tmod m
theorem ringI_bd (n m : Int) (hm : 1 ≤ m) : 0 ≤ ringI n m ∧ ringI n m < m := by
  unfold ringI
  rw [if_neg (by omega)]
  have h1 : -m < n.tmod m ∧ n.tmod m < m := by
    rcases Int.lt_or_le n 0 with h | h
    · have h2 := Int.tmod_lt_of_pos (-n) (show (0 : Int) < m by omega)
      have h3 := Int.tmod_nonneg m (show 0 ≤ -n by omega)
      rw [Int.neg_tmod] at h2 h3
      omega
    · have h2 := Int.tmod_lt_of_pos n (show (0 : Int) < m by omega)
      have h3 := Int.tmod_nonneg m h
      omega
  exact ⟨Int.tmod_nonneg m (by omega), Int.tmod_lt_of_pos _ (by omega)⟩
theorem gd_of {α : Type} {l : List α} {i : Nat} {x : α} (d : α) (h : l[i]? = some x) : l.getD i d = x := by rw [List.getD_eq_getElem?_getD, h]; rfl
end Go.Proofs.YtppfniekcgnmjaaGreat.Tk
namespace Go.Proofs.YtppfniekcgnmjaaGreat.Tk
open Go.Sx Go.RowKit
set_option maxRecDepth 20000

end Go.Proofs.YtppfniekcgnmjaaGreat.Tk
namespace Go.Proofs.YtppfniekcgnmjaaGreat.Tk
open Go.Sx Go.RowKit Um
set_option maxRecDepth 20000
theorem k_within (n lo hi : Int) (w : World)  : Calls Tryz.prog 113 #[.int .i64 n, .int .i64 lo, .int .i64 hi] w (fun e w' => e = .returned (.bool (btw lo n hi)) ∧ Grow w w') := by
  refine enter_pure (args := [.int .i64 n, .int .i64 lo, .int .i64 hi]) [] Tryz.func113 rfl (by rw [Tryz.ntmps113]; simp) (by simp) ?_
  refine cj_seq ?_
  refine cj_regionG (gj_step (y_assign rfl) rfl rfl rfl (gj_nil ?_))
  refine ej_th (cj_seq ?_)
  refine cj_regionG (gj_step (y_move rfl) rfl rfl rfl (gj_step (y_move rfl) rfl rfl rfl (gj_step (y_geq rfl rfl) rfl rfl rfl (gj_step (y_move rfl) rfl rfl rfl (gj_g 3 10 13 rfl rfl rfl rfl (fun hg10 => gj_yes rfl rfl rfl (y_move rfl) rfl rfl (gj_yes rfl rfl rfl (y_move rfl) rfl rfl (gj_yes rfl rfl rfl (y_leq rfl rfl) rfl rfl (gj_nil rfl)))) (gj_step (y_and rfl rfl rfl) rfl rfl rfl (gj_step (y_assign rfl) rfl rfl rfl (gj_nil ?_))))))))
  refine ej_th (cj_ret ?_)
  exact ej_ret1 rfl Tryz.results113 rfl (fun w' hp => ⟨rfl, hp.below⟩)

theorem k_digits1 (n m b3 b2 : Nat) (hn : n ≤ 4611686018427387904) (hm : m ≤ 100) : IterC Tryz.prog 163 #[.pointer (some ⟨b3, 0, none⟩), .pointer (some ⟨b2, 0, none⟩)] (fun p : Nat × Nat => [.int .i64 (p.1 : Nat), .int .i64 (p.2 : Nat)]) (digL n m) b2 (fun k => cellsB 3 [.int .i64 (n / 10 ^ k : Nat)]) [ownB b3 (cellsB 3 [.int .i64 (m : Nat)])] := by
  intro l J Jx w hgr hput hfacts hgx hround hJ0
  refine enter_pure (args := [.func (.yield l) #[] #[], .pointer (some ⟨b3, 0, none⟩), .pointer (some ⟨b2, 0, none⟩)]) [ownB b3 (cellsB 3 [.int .i64 (m : Nat)])] Tryz.func163 rfl (by rw [Tryz.ntmps163]; simp) (fun g hg => ⟨((hfacts _ _ _ hJ0).2 g hg).1, fun i hi => (((hfacts _ _ _ hJ0).2 g hg).2 i hi).1⟩) ?_
  refine cj_seq ?_
  refine cj_regionG (gj_step (y_loadS1 Tryz.isAgg3 rfl rfl) rfl rfl rfl (gj_step (y_move rfl) rfl rfl rfl (gj_nil ?_)))
  refine ej_th (cj_block ?_)
  refine cj_loopB (X := Nat) (fun k => k ≤ m) (fun k => [(0, .func (.yield l) #[] #[]), (1, .pointer (some ⟨b3, 0, none⟩)), (2, .pointer (some ⟨b2, 0, none⟩)), (5, .int .i64 (m : Nat)), (6, .int .i64 (k : Nat))]) (fun k => fun W => J k (cellsB 3 [.int .i64 (n / 10 ^ k : Nat)]) W) [ownB b3 (cellsB 3 [.int .i64 (m : Nat)])] (fun k => m - k) 0 (Nat.zero_le _) ⟨rfl, rfl, rfl, rfl, rfl, trivial⟩ (fun w1 hp => hgr _ _ _ _ hJ0 hp.below) (fun x W h g hg => ⟨((hfacts _ _ _ h).2 g hg).1, fun i hi => (((hfacts _ _ _ h).2 g hg).2 i hi).1⟩) ?_
  rintro k W hk hJW
  refine cj_seq ?_
  refine cj_regionG (gj_step (y_lss rfl rfl) rfl rfl rfl (gj_nil ?_))
  refine ej_th (cj_seq ?_)
  refine cj_cond rfl (fun h7 => ?_) (fun h7 => ?_)
  · have h7b := h7
    try simp only [sxb] at h7
    have hq0 : n / 10 ^ k ≤ n := Nat.div_le_self _ _
    have hq : ((n / 10 ^ k : Nat) : Int) ≤ 9223372036854775807 := Int.ofNat_le.2 (show n / 10 ^ k ≤ 9223372036854775807 by omega)
    refine cj_skip (ej_th (cj_seq (cj_block (cj_seq ?_))))
    refine cj_regionG (gj_step (y_move rfl) rfl rfl rfl (gj_step (y_assign rfl) rfl rfl rfl (gj_nil ?_)))
    refine ej_th (cj_seq (cj_seq ?_))
    refine cj_addS (ownB b2 (cellsB 3 [.int .i64 (n / 10 ^ k : Nat)])) (fun w1 hp => ⟨(hfacts _ _ _ (hgr _ _ _ _ hJW hp.below)).1, fun i hi => ⟨by have hi : i = b2 := hi; subst hi; exact (Array.getElem?_eq_some_iff.1 (hfacts _ _ _ (hgr _ _ _ _ hJW hp.below)).1).1, by simp⟩⟩) ?_
    refine cj_region ?_
    refine oj_step (y_move rfl) rfl rfl rfl ?_
    refine oj_step (y_move rfl) rfl rfl rfl ?_
    refine oj_step (y_loadS1 Tryz.isAgg3 rfl rfl) rfl rfl rfl ?_
    refine oj_step (y_rem rfl rfl (Int.natCast_nonneg _) (by omega)) rfl rfl rfl ?_
    rw [show ((n / 10 ^ k : Nat) : Int) % 10 = ((n / 10 ^ k % 10 : Nat) : Int) by omega]
    refine oj_yieldB (T := fun b W' => if b = true then J (k + 1) (cellsB 3 [.int .i64 (n / 10 ^ k : Nat)]) W' else Jx W') [] rfl rfl rfl (fun w1 hp => hround k (k, n / 10 ^ k % 10) w1 (digL_at n (by omega)) (hgr _ _ _ _ hJW hp.below)) rfl (fun b W h g hg => by cases hg) (fun b13 W13 hT13 => ?_)
    refine oj_step (y_not rfl) rfl rfl rfl ?_
    refine oj_nil ?_
    refine ej_th ?_
    refine cj_cond rfl (fun h14 => ?_) (fun h14 => ?_)
    · have h14b := h14
      try simp only [sxb] at h14
      have hb : b13 = false := not_t h14b
      subst hb
      have hT : Jx W13 := hT13
      refine cj_ret (ej_then_ret (ej_blk_ret (ej_then_ret (ej_then_ret (ej_blk_ret ?_)))))
      exact ej_ret0 rfl Tryz.results163 (fun w' hp => ⟨⟨_, rfl⟩, .inr (hgx _ _ hT hp.below)⟩)
    · have h14b := h14
      try simp only [sxb] at h14
      have hb : b13 = true := not_f h14b
      subst hb
      have hT : J (k + 1) (cellsB 3 [.int .i64 (n / 10 ^ k : Nat)]) W13 := hT13
      refine cj_skip (ej_th ?_)
      refine cj_addS (ownB b2 (cellsB 3 [.int .i64 (n / 10 ^ k : Nat)])) (fun w1 hp => ⟨(hfacts _ _ _ (hgr _ _ _ _ hT hp.below)).1, fun i hi => ⟨by have hi : i = b2 := hi; subst hi; exact (Array.getElem?_eq_some_iff.1 (hfacts _ _ _ (hgr _ _ _ _ hT hp.below)).1).1, by simp⟩⟩) ?_
      refine cj_ownS b2 (cellsB 3 [.int .i64 (n / 10 ^ k : Nat)]) [] (Array.getElem?_eq_some_iff.1 (hfacts _ _ _ hT).1).1 (List.mem_cons_self ..) (fun g hg => by cases hg) ?_
      refine cj_region ?_
      refine oj_step (y_load1 Tryz.isAgg3 rfl rfl) rfl rfl rfl ?_
      refine oj_step (y_quo rfl rfl (⟨Int.natCast_nonneg _, hq, by decide⟩)) rfl rfl rfl ?_
      refine oj_store rfl rfl rfl rfl Tryz.sizeOf3 rfl ?_
      refine oj_nil ?_
      refine ej_blk (ej_th ?_)
      refine cj_regionG (gj_step (y_add rfl rfl (by omega)) rfl rfl rfl (gj_step (y_move rfl) rfl rfl rfl (gj_nil ?_)))
      rw [show ((n / 10 ^ k : Nat) : Int) / 10 = ((n / 10 ^ (k + 1) : Nat) : Int) by rw [Nat.pow_succ, ← Nat.div_div_eq_div_mul]; omega, show ((k : Nat) : Int) + 1 = ((k + 1 : Nat) : Int) by omega]
      exact ej_nxH (k + 1) (by omega) (by omega) ⟨rfl, rfl, rfl, rfl, rfl, trivial⟩ (fun w1 hp => hput _ _ _ _ _ hT (hp.putB (List.mem_cons_self ..)))
  · have h7b := h7
    try simp only [sxb] at h7
    have hkm : k = m := by omega
    subst hkm
    refine cj_exit (ej_then_exit (ej_then_exit (ej_blk_hit ?_)))
    exact ej_end0 rfl Tryz.results163 (fun w' hp => ⟨⟨_, rfl⟩, .inl (by rw [digL_len]; exact hgr _ _ _ _ hJW hp.below)⟩)

theorem k_digits (n m : Nat) (w : World)  : Calls Tryz.prog 141 #[.int .i64 (n : Nat), .int .i64 (m : Nat)] w (fun e w' => ∃ z : Nat × Nat, e = .returned (.func (.func 163) #[] #[.pointer (some ⟨z.1, 0, none⟩), .pointer (some ⟨z.2, 0, none⟩)]) ∧ Giv [] w w' [ownB z.1 (cellsB 3 [.int .i64 (m : Nat)]), ownB z.2 (cellsB 3 [.int .i64 (n : Nat)])]) := by
  refine enterO (args := [.int .i64 (n : Nat), .int .i64 (m : Nat)]) [] [] Tryz.func141 rfl (by rw [Tryz.ntmps141]; simp) (fun g hg => by cases hg) (.nil) (fun g hg => by cases hg) ?_
  refine cj_seq (cj_region ?_)
  refine oj_box rfl rfl rfl (fun b2 => ?_)
  refine oj_box rfl rfl rfl (fun b3 => ?_)
  refine oj_step (y_assign rfl) rfl rfl rfl ?_
  refine oj_nil ?_
  refine ej_th (cj_seq ?_)
  refine cj_regionG (gj_step (y_makeFunc rfl rfl) rfl rfl rfl (gj_step (y_assign rfl) rfl rfl rfl (gj_nil ?_)))
  refine ej_th (cj_ret ?_)
  exact ej_ret1 rfl Tryz.results141 rfl (fun w' hp => ⟨(b3, b2), rfl, hp.givT _⟩)

end Go.Proofs.YtppfniekcgnmjaaGreat.Tk
namespace Go.Proofs.YtppfniekcgnmjaaGreat.Tk
open Go.Sx Go.RowKit
set_option maxRecDepth 20000

end Go.Proofs.YtppfniekcgnmjaaGreat.Tk
namespace Go.Proofs.YtppfniekcgnmjaaGreat.Tk
open Go.Sx Go.RowKit Um
set_option maxRecDepth 20000
set_option maxHeartbeats 400000 in
theorem k_code (n : Nat) (w : World) (hn : n ≤ 99999999) : Calls Tryz.prog 114 #[.int .i64 (n : Nat)] w (fun e w' => e = .returned (.string (codeS n)) ∧ Grow w w') := by
  have hfb := full_bd hn
  refine enter_pureM (args := [.int .i64 (n : Nat)]) [] Tryz.func114 rfl (by rw [Tryz.ntmps114]; simp) (fun g hg => by cases hg) ?_
  refine cj_seq ?_
  refine cj_regionG (gj_step (y_assign rfl) rfl rfl rfl (gj_nil ?_))
  refine ej_th (cj_seq ?_)
  refine cj_regionG (gj_step (y_move rfl) rfl rfl rfl (gj_step (y_mul rfl rfl (by omega)) rfl rfl rfl (gj_step (y_add rfl rfl (by omega)) rfl rfl rfl (gj_step (y_move rfl) rfl rfl rfl (gj_step (y_mul rfl rfl (by omega)) rfl rfl rfl (gj_step (y_rem rfl rfl (by omega) (by omega)) rfl rfl rfl (gj_step (y_sub rfl rfl (by omega)) rfl rfl rfl (gj_step (y_assign rfl) rfl rfl rfl (gj_nil ?_)))))))))
  refine ej_th (cj_seq (cj_region ?_))
  refine oj_makeSlice1 (n := 10) Tryz.underlying255 Tryz.type5 rfl rfl rfl rfl rfl (by decide) (by decide) rfl (fun b14 => ?_)
  refine oj_litOw (b := b14) (e := 5) (c := 10) (sz := 1) (enc := enB) (codF (fullN n) 0) rfl (by rw [codF_0]; exact replicate_enB 10) rfl (by unfold maxLen; decide) ?_
  refine oj_alloc Tryz.zeroValue255 rfl rfl (fun b4 => ?_)
  refine oj_store rfl rfl rfl rfl Tryz.sizeOf255 rfl ?_
  refine oj_nil ?_
  refine ej_th (cj_seq (cj_seq (cj_region ?_)))
  refine oj_step (y_move rfl) rfl rfl rfl ?_
  rw [show (100 : Int) * ((n : Nat) : Int) + 98 - 100 * ((n : Nat) : Int) % 97 = ((fullN n : Nat) : Int) by unfold fullN; omega]
  refine oj_callL (X := Nat × Nat) (fun z => .func (.func 163) #[] #[.pointer (some ⟨z.1, 0, none⟩), .pointer (some ⟨z.2, 0, none⟩)]) [] (fun z => [ownB z.1 (cellsB 3 [.int .i64 (10 : Nat)]), ownB z.2 (cellsB 3 [.int .i64 ((fullN n) : Nat)])]) Tryz.call141 rfl rfl (fun w1 hp => k_digits (fullN n) 10 w1) rfl ?_
  rintro ⟨b3, b2⟩
  dsimp only [List.cons_append, List.nil_append]
  refine oj_nil ?_
  refine ej_th (cj_block ?_)
  refine cj_frzS (O' := [ownB b2 (cellsB 3 [.int .i64 ((fullN n) : Nat)]), ownB b4 (cellsB 255 [.slice (some ⟨b14, 0, none⟩) 10 10]), ow 5 1 enB (some ⟨b14, 0, none⟩) 10 (codF (fullN n) 0)]) (ownB b3 (cellsB 3 [.int .i64 (10 : Nat)])) (ownB b3 (cellsB 3 [.int .i64 (10 : Nat)])) (fun w1 hp => (hp.own _ (List.mem_cons_self ..)).1) (fun b hb => .inl hb) ?_
  refine cj_rangeC (k_digits1 (fullN n) 10 b3 b2 (by omega) (by decide)) (Y := Unit) (Z := Empty) (fun _ _ => True) (fun k _ => [ownB b4 (cellsB 255 [.slice (some ⟨b14, 0, none⟩) 10 10]), ow 5 1 enB (some ⟨b14, 0, none⟩) 10 (codF (fullN n) k)]) Empty.elim Empty.elim () trivial rfl Tryz.call163 (fun _ => rfl) rfl (hO := ?_) ?_ ?_ ?_
  · rw [Nat.pow_zero, Nat.div_one]; infer_instance
  · rintro lo Db r0 r1 k p _ hp9 -
    obtain ⟨hk, rfl⟩ := digL_get hp9
    dsimp only [List.cons_append, List.nil_append]
    refine cj_seq ?_
    refine cj_regionG (gj_step (y_assign rfl) rfl rfl rfl (gj_nil ?_))
    refine ej_th ?_
    refine cj_regionG (gj_step (y_assign rfl) rfl rfl rfl (gj_nil ?_))
    refine ej_beg (cj_block (cj_region ?_))
    refine oj_step (y_load1 Tryz.isAgg255 rfl rfl) rfl rfl rfl ?_
    refine oj_step (y_move rfl) rfl rfl rfl ?_
    refine oj_step (y_sub rfl rfl (by omega)) rfl rfl rfl ?_
    rw [show (9 : Int) - ((k : Nat) : Int) = ((9 - k : Nat) : Int) by omega]
    refine oj_step (y_move rfl) rfl rfl rfl ?_
    refine oj_step (y_add rfl rfl (by omega)) rfl rfl rfl ?_
    rw [show (48 : Int) + (((fullN n) / 10 ^ k % 10) : Nat) = ((48 + ((fullN n) / 10 ^ k % 10) : Nat) : Int) by omega]
    refine oj_step (y_conv Tryz.underlying3 Tryz.underlying5 rfl) rfl rfl rfl ?_
    rw [wrap8 (by omega) (by omega)]
    refine oj_step (y_ixRm (m := 10) (xs := codF (fullN n) k) (codF_len _ _).symm (reads_ow enB_len) Tryz.underlying255 Tryz.sizeOf5 rfl rfl ⟨by omega, by omega⟩) rfl rfl rfl ?_
    refine oj_storeE (i := 9 - k) (u := 48 + ((fullN n) / 10 ^ k % 10)) rfl rfl rfl rfl Tryz.sizeOf5 (fun _ => rfl) (by rw [codF_len]; omega) ?_
    refine oj_nil ?_
    refine ej_blk ?_
    rw [codF_set _ hk]
    exact ej_rdS () trivial (fun _ h => h)
  · rintro Db _ -
    rw [digL_len]
    refine ej_blk (ej_th (cj_seq ?_))
    refine cj_regionG (gj_step (y_load1 Tryz.isAgg255 rfl rfl) rfl rfl rfl (gj_step (y_bytesS (xs := codF (fullN n) 10) (reads_ow enB_len) (fun h => by have h9 := codF_len (fullN n) 10; rw [h] at h9; cases h9) (codF_len _ _).symm Tryz.underlying255 Tryz.underlying5 Tryz.underlying9 rfl) rfl rfl rfl (gj_step (y_assign rfl) rfl rfl rfl (gj_nil ?_))))
    refine ej_th (cj_ret ?_)
    exact ej_retM1 rfl Tryz.results114 rfl (fun w' hp => ⟨rfl, hp.below⟩)
  · intro Db z; exact z.elim

theorem k_Code (n : Int) (w : World)  : Calls Tryz.prog 88 #[.int .i64 n] w (fun e w' => e = .returned (.tuple #[.string (CodS n), .int .i64 (CodE n)]) ∧ Grow w w') := by
  refine enter_pure (args := [.int .i64 n]) [] Tryz.func88 rfl (by rw [Tryz.ntmps88]; simp) (by simp) ?_
  refine cj_seq ?_
  refine cj_regionG (gj_step (y_assign rfl) rfl rfl rfl (gj_step (y_assign rfl) rfl rfl rfl (gj_nil ?_)))
  refine ej_th (cj_seq (cj_seq ?_))
  refine cj_regionG ?_
  refine gj_step (y_move rfl) rfl rfl rfl (?_)
  refine gj_step (y_call Tryz.call113 rfl (fun w hp => k_within _ _ _ w)) rfl rfl rfl ?_
  refine gj_step (y_not rfl) rfl rfl rfl (?_)
  refine gj_nil ?_
  refine ej_th ?_
  refine cj_cond rfl (fun h6 => ?_) (fun h6 => ?_)
  · have h6b := h6
    try simp only [sxb] at h6
    refine cj_seq ?_
    refine cj_regionG (gj_step (y_assign rfl) rfl rfl rfl (gj_step (y_assign rfl) rfl rfl rfl (gj_nil ?_)))
    refine ej_th (cj_ret (ej_then_ret ?_))
    refine ej_ret2 rfl Tryz.results88 rfl rfl (fun w' hp => ⟨?_, hp.below⟩)
    rw [CodS, CodE, not_t h6b]; rfl
  · have h6b := h6
    try simp only [sxb] at h6
    have hb := btw_t (not_f h6b)
    refine cj_skip (ej_th (cj_seq ?_))
    refine cj_regionG ?_
    refine gj_step (y_move rfl) rfl rfl rfl (?_)
    refine gj_step (y_call Tryz.call114 rfl (fun w hp => by
      have h := k_code n.toNat w (by omega)
      rw [Int.toNat_of_nonneg (by omega)] at h
      exact h)) rfl rfl rfl ?_
    refine gj_step (y_assign rfl) rfl rfl rfl (gj_step (y_assign rfl) rfl rfl rfl (?_))
    refine gj_nil ?_
    refine ej_th (cj_ret ?_)
    refine ej_ret2 rfl Tryz.results88 rfl rfl (fun w' hp => ⟨?_, hp.below⟩)
    rw [CodS, CodE, not_f h6b]; rfl

end Go.Proofs.YtppfniekcgnmjaaGreat.Tk
namespace Go.Proofs.YtppfniekcgnmjaaGreat.Le
open Go Go.Sx Go.RowKit Um
def spanOk (lo hi most : Int) : Bool := decide (0 ≤ lo) && decide (lo ≤ hi) && decide (hi ≤ most)
def badTerms (fr fl cap : Int) : Bool := !(btw 0 fr 64) || !(btw 0 cap 1073741824) || !(btw 0 fl cap)
def errT (b : Bool) : Int := if b then 22 else 0
theorem errT_ne (b : Bool) : (errT b ≠ 0) = (b = true) := by cases b <;> simp [errT]
theorem errT_eq (b : Bool) : (errT b = 0) = (b = false) := by cases b <;> simp [errT]
theorem badTerms_no {fr fl cap : Int} (h : badTerms fr fl cap = false) : (0 ≤ fr ∧ fr ≤ 64) ∧ (0 ≤ cap ∧ cap ≤ 1073741824) ∧ (0 ≤ fl ∧ fl ≤ cap) := by
  unfold badTerms at h
  rw [Bool.or_eq_false_iff, Bool.or_eq_false_iff] at h
  exact ⟨btw_t (not_f h.1.1), btw_t (not_f h.1.2), btw_t (not_f h.2)⟩
def mostOf (fr fl cap lo : Int) : Int := min (if lo * fr / 64 < fl then min fl lo else lo * fr / 64) cap
def MostN (fr fl cap lo hi : Int) : Int := if badTerms fr fl cap then 0 else if spanOk lo hi 2147483648 then mostOf fr fl cap lo else 0
def MostE (fr fl cap lo hi : Int) : Int := if badTerms fr fl cap then 22 else if spanOk lo hi 2147483648 then 0 else 7
theorem mul_bd {a b m n : Int} (ha : 0 ≤ a ∧ a ≤ m) (hb : 0 ≤ b ∧ b ≤ n) : 0 ≤ a * b ∧ a * b ≤ m * n :=
  ⟨Int.mul_nonneg ha.1 hb.1, Int.mul_le_mul ha.2 hb.2 hb.1 (by omega)⟩
end Go.Proofs.YtppfniekcgnmjaaGreat.Le
namespace Go.Proofs.YtppfniekcgnmjaaGreat.Le
open Go Go.Sx Go.RowKit
theorem eq_drop {α : Type} [DecidableEq α] (a b : List α) (k : Nat) (x y : α) (hx : a[k]? = some x) (hy : b[k]? = some y) : decide (a.drop k = b.drop k) = (decide (x = y) && decide (a.drop (k + 1) = b.drop (k + 1))) := by
  obtain ⟨h1, h2⟩ := List.getElem?_eq_some_iff.1 hx
  obtain ⟨h3, h4⟩ := List.getElem?_eq_some_iff.1 hy
  rw [List.drop_eq_getElem_cons h1, h2, List.drop_eq_getElem_cons h3, h4]
  by_cases h : x = y <;> by_cases h5 : a.drop (k + 1) = b.drop (k + 1) <;> simp [h, h5]
theorem eq_len {α : Type} [DecidableEq α] {a b : List α} (h : ¬ (a.length : Int) = b.length) : decide (a = b) = false := decide_eq_false (fun e => h (by rw [e]))
theorem len_of {a b : List Int} (h : ((a.length : Int) == (b.length : Int)) = true) : a.length = b.length := by
  have h2 : (a.length : Int) = b.length := by simpa using h
  omega
theorem same_start (a b : List Int) : (((a.length : Int) == (b.length : Int)) && decide (a.drop 0 = b.drop 0)) = decide (a = b) := by
  rw [List.drop_zero, List.drop_zero]
  by_cases h : (a.length : Int) = b.length
  · rw [show ((a.length : Int) == (b.length : Int)) = true by simpa using h]; rfl
  · rw [show ((a.length : Int) == (b.length : Int)) = false by simpa using h, eq_len h]; rfl
theorem beq_dec {x y : Int} {c : Bool} : ((x == y) && c) = (decide (x = y) && c) := by
  by_cases h : x = y <;> simp [h]
def ringI (n m : Int) : Int := if m ≤ 0 then 0 else ((n.tmod m) + m).tmod m
theorem ringI_bd (n m : Int) (hm : 1 ≤ m) : 0 ≤ ringI n m ∧ ringI n m < m := by
  unfold ringI
  rw [if_neg (by omega)]
  have h1 : -m < n.tmod m ∧ n.tmod m < m := by
    rcases Int.lt_or_le n 0 with h | h
    · have h2 := Int.tmod_lt_of_pos (-n) (show (0 : Int) < m by omega)
      have h3 := Int.tmod_nonneg m (show 0 ≤ -n by omega)
      rw [Int.neg_tmod] at h2 h3
      omega
    · have h2 := Int.tmod_lt_of_pos n (show (0 : Int) < m by omega)
      have h3 := Int.tmod_nonneg m h
      omega
  exact ⟨Int.tmod_nonneg m (by omega), Int.tmod_lt_of_pos _ (by omega)⟩
theorem gd_of {α : Type} {l : List α} {i : Nat} {x : α} (d : α) (h : l[i]? = some x) : l.getD i d = x := by rw [List.getD_eq_getElem?_getD, h]; rfl
end Go.Proofs.YtppfniekcgnmjaaGreat.Le
namespace Go.Proofs.YtppfniekcgnmjaaGreat.Le
open Go.Sx Go.RowKit
set_option maxRecDepth 20000
theorem fa105_0 : FieldIs Tryz.prog 105 0 0 1 false := ⟨⟨_, _, Tryz.underlying105, rfl, rfl, Tryz.sizeOf3, Tryz.isAgg3, by decide⟩⟩
theorem fa105_1 : FieldIs Tryz.prog 105 1 1 1 false := ⟨⟨_, _, Tryz.underlying105, rfl, rfl, Tryz.sizeOf3, Tryz.isAgg3, by decide⟩⟩
theorem fa181_0 : FieldIs Tryz.prog 181 0 0 1 false := ⟨⟨_, _, Tryz.underlying181, rfl, rfl, Tryz.sizeOf3, Tryz.isAgg3, by decide⟩⟩
theorem fa181_1 : FieldIs Tryz.prog 181 1 1 1 false := ⟨⟨_, _, Tryz.underlying181, rfl, rfl, Tryz.sizeOf3, Tryz.isAgg3, by decide⟩⟩
theorem fa181_2 : FieldIs Tryz.prog 181 2 2 1 false := ⟨⟨_, _, Tryz.underlying181, rfl, rfl, Tryz.sizeOf3, Tryz.isAgg3, by decide⟩⟩
end Go.Proofs.YtppfniekcgnmjaaGreat.Le
namespace Go.Proofs.YtppfniekcgnmjaaGreat.Le
open Go.Sx Go.RowKit Um
set_option maxRecDepth 20000
theorem k_within (n lo hi : Int) (w : World)  : Calls Tryz.prog 142 #[.int .i64 n, .int .i64 lo, .int .i64 hi] w (fun e w' => e = .returned (.bool (btw lo n hi)) ∧ Grow w w') := by
  refine enter_pure (args := [.int .i64 n, .int .i64 lo, .int .i64 hi]) [] Tryz.func142 rfl (by rw [Tryz.ntmps142]; simp) (by simp) ?_
  refine cj_seq ?_
  refine cj_regionG (gj_step (y_assign rfl) rfl rfl rfl (gj_nil ?_))
  refine ej_th (cj_seq ?_)
  refine cj_regionG (gj_step (y_move rfl) rfl rfl rfl (gj_step (y_move rfl) rfl rfl rfl (gj_step (y_geq rfl rfl) rfl rfl rfl (gj_step (y_move rfl) rfl rfl rfl (gj_g 3 10 13 rfl rfl rfl rfl (fun hg10 => gj_yes rfl rfl rfl (y_move rfl) rfl rfl (gj_yes rfl rfl rfl (y_move rfl) rfl rfl (gj_yes rfl rfl rfl (y_leq rfl rfl) rfl rfl (gj_nil rfl)))) (gj_step (y_and rfl rfl rfl) rfl rfl rfl (gj_step (y_assign rfl) rfl rfl rfl (gj_nil ?_))))))))
  refine ej_th (cj_ret ?_)
  exact ej_ret1 rfl Tryz.results142 rfl (fun w' hp => ⟨rfl, hp.below⟩)

theorem k_span (lo hi most : Int) (w : World)  : Calls Tryz.prog 116 #[.agg #[.int .i64 lo, .int .i64 hi], .int .i64 most] w (fun e w' => e = .returned (.bool (spanOk lo hi most)) ∧ Grow w w') := by
  refine enter_pure (args := [.agg #[.int .i64 lo, .int .i64 hi], .int .i64 most]) [] Tryz.func116 rfl (by rw [Tryz.ntmps116]; simp) (by simp) ?_
  refine cj_seq (cj_region ?_)
  refine oj_box rfl rfl rfl (fun b2 => ?_)
  refine oj_step (y_assign rfl) rfl rfl rfl ?_
  refine oj_nil ?_
  refine ej_th (cj_seq ?_)
  refine cj_regionG (gj_step (y_fa0 fa105_0 rfl) rfl rfl rfl (gj_step (y_load1 Tryz.isAgg3 rfl rfl) rfl rfl rfl (gj_step (y_geq rfl rfl) rfl rfl rfl (gj_step (y_move rfl) rfl rfl rfl (gj_g 5 8 13 rfl rfl rfl rfl (fun hg8 => gj_yes rfl rfl rfl (y_fa0 fa105_0 rfl) rfl rfl (gj_yes rfl rfl rfl (y_load1 Tryz.isAgg3 rfl rfl) rfl rfl (gj_yes rfl rfl rfl (y_fa fa105_1 rfl) rfl rfl (gj_yes rfl rfl rfl (y_load1 Tryz.isAgg3 rfl rfl) rfl rfl (gj_yes rfl rfl rfl (y_leq rfl rfl) rfl rfl (gj_nil rfl)))))) (gj_step (y_and rfl rfl rfl) rfl rfl rfl (gj_step (y_move rfl) rfl rfl rfl (gj_g 4 15 19 rfl rfl rfl rfl (fun hg15 => gj_yes rfl rfl rfl (y_fa fa105_1 rfl) rfl rfl (gj_yes rfl rfl rfl (y_load1 Tryz.isAgg3 rfl rfl) rfl rfl (gj_yes rfl rfl rfl (y_move rfl) rfl rfl (gj_yes rfl rfl rfl (y_leq rfl rfl) rfl rfl (gj_nil rfl))))) (gj_step (y_and rfl rfl rfl) rfl rfl rfl (gj_step (y_assign rfl) rfl rfl rfl (gj_nil ?_)))))))))))
  refine ej_th (cj_ret ?_)
  exact ej_ret1 rfl Tryz.results116 rfl (fun w' hp => ⟨rfl, hp.below⟩)

theorem k_CheckTerms (fr fl cap : Int) (w : World)  : Calls Tryz.prog 115 #[.agg #[.int .i64 fr, .int .i64 fl, .int .i64 cap]] w (fun e w' => e = .returned (.int .i64 (errT (badTerms fr fl cap))) ∧ Grow w w') := by
  refine enter_pure (args := [.agg #[.int .i64 fr, .int .i64 fl, .int .i64 cap]]) [] Tryz.func115 rfl (by rw [Tryz.ntmps115]; simp) (by simp) ?_
  refine cj_seq (cj_region ?_)
  refine oj_box rfl rfl rfl (fun b1 => ?_)
  refine oj_step (y_assign rfl) rfl rfl rfl ?_
  refine oj_nil ?_
  refine ej_th (cj_seq (cj_seq ?_))
  refine cj_regionG ?_
  refine gj_step (y_fa0 fa181_0 rfl) rfl rfl rfl (gj_step (y_load1 Tryz.isAgg3 rfl rfl) rfl rfl rfl (?_))
  refine gj_step (y_call Tryz.call142 rfl (fun w hp => k_within _ _ _ w)) rfl rfl rfl ?_
  refine gj_step (y_not rfl) rfl rfl rfl (gj_step (y_move rfl) rfl rfl rfl (?_))
  refine gj_g 4 7 11 rfl rfl rfl rfl (fun hg7 => gj_yes rfl rfl rfl (y_fa fa181_2 rfl) rfl rfl (gj_yes rfl rfl rfl (y_load1 Tryz.isAgg3 rfl rfl) rfl rfl (gj_yes rfl rfl rfl (y_call Tryz.call142 rfl (fun w hp => k_within _ _ _ w)) rfl rfl (gj_yes rfl rfl rfl (y_not rfl) rfl rfl (gj_nil rfl))))) ?_
  refine gj_step (y_or rfl rfl rfl) rfl rfl rfl (gj_step (y_move rfl) rfl rfl rfl (?_))
  refine gj_g 6 13 19 rfl rfl rfl rfl (fun hg13 => gj_yes rfl rfl rfl (y_fa fa181_1 rfl) rfl rfl (gj_yes rfl rfl rfl (y_load1 Tryz.isAgg3 rfl rfl) rfl rfl (gj_yes rfl rfl rfl (y_fa fa181_2 rfl) rfl rfl (gj_yes rfl rfl rfl (y_load1 Tryz.isAgg3 rfl rfl) rfl rfl (gj_yes rfl rfl rfl (y_call Tryz.call142 rfl (fun w hp => k_within _ _ _ w)) rfl rfl (gj_yes rfl rfl rfl (y_not rfl) rfl rfl (gj_nil rfl))))))) ?_
  refine gj_step (y_or rfl rfl rfl) rfl rfl rfl (?_)
  refine gj_nil ?_
  refine ej_th ?_
  refine cj_cond rfl (fun h20 => ?_) (fun h20 => ?_)
  · have h20b := h20
    try simp only [sxb] at h20
    refine cj_seq ?_
    refine cj_regionG (gj_step (y_assign rfl) rfl rfl rfl (gj_nil ?_))
    refine ej_th (cj_ret (ej_then_ret ?_))
    refine ej_ret1 rfl Tryz.results115 rfl (fun w' hp => ⟨?_, hp.below⟩)
    rw [show badTerms fr fl cap = true from h20b]; rfl
  · have h20b := h20
    try simp only [sxb] at h20
    refine cj_skip (ej_th (cj_seq ?_))
    refine cj_regionG (gj_step (y_assign rfl) rfl rfl rfl (gj_nil ?_))
    refine ej_th (cj_ret ?_)
    refine ej_ret1 rfl Tryz.results115 rfl (fun w' hp => ⟨?_, hp.below⟩)
    rw [show badTerms fr fl cap = false from h20b]; rfl

theorem k_most (fr fl cap lo hi : Int) (w : World) (hb : badTerms fr fl cap = false) (hv : 0 ≤ lo ∧ lo ≤ 2147483648) : Calls Tryz.prog 117 #[.agg #[.int .i64 fr, .int .i64 fl, .int .i64 cap], .agg #[.int .i64 lo, .int .i64 hi]] w (fun e w' => e = .returned (.int .i64 (mostOf fr fl cap lo)) ∧ Grow w w') := by
  obtain ⟨h1, h2, h3⟩ := badTerms_no hb
  have hm := mul_bd hv h1
  refine enter_pure (args := [.agg #[.int .i64 fr, .int .i64 fl, .int .i64 cap], .agg #[.int .i64 lo, .int .i64 hi]]) [] Tryz.func117 rfl (by rw [Tryz.ntmps117]; simp) (by simp) ?_
  refine cj_seq (cj_region ?_)
  refine oj_box rfl rfl rfl (fun b2 => ?_)
  refine oj_box rfl rfl rfl (fun b3 => ?_)
  refine oj_step (y_assign rfl) rfl rfl rfl ?_
  refine oj_nil ?_
  refine ej_th (cj_seq ?_)
  refine cj_regionG (gj_step (y_fa0 fa105_0 rfl) rfl rfl rfl (gj_step (y_load1 Tryz.isAgg3 rfl rfl) rfl rfl rfl (gj_step (y_fa0 fa181_0 rfl) rfl rfl rfl (gj_step (y_load1 Tryz.isAgg3 rfl rfl) rfl rfl rfl (gj_step (y_mul rfl rfl (by omega)) rfl rfl rfl (gj_step (y_quo rfl rfl (⟨by omega, by omega, by omega⟩)) rfl rfl rfl (gj_step (y_assign rfl) rfl rfl rfl (gj_nil ?_))))))))
  refine ej_th (cj_seq (cj_seq ?_))
  refine cj_regionG (gj_step (y_move rfl) rfl rfl rfl (gj_step (y_fa fa181_1 rfl) rfl rfl rfl (gj_step (y_load1 Tryz.isAgg3 rfl rfl) rfl rfl rfl (gj_step (y_lss rfl rfl) rfl rfl rfl (gj_nil ?_)))))
  refine ej_th ?_
  refine cj_cond rfl (fun h15 => ?_) (fun h15 => ?_)
  · have h15b := h15
    try simp only [sxb] at h15
    refine cj_regionG (gj_step (y_fa fa181_1 rfl) rfl rfl rfl (gj_step (y_load1 Tryz.isAgg3 rfl rfl) rfl rfl rfl (gj_step (y_fa0 fa105_0 rfl) rfl rfl rfl (gj_step (y_load1 Tryz.isAgg3 rfl rfl) rfl rfl rfl (gj_step (y_min rfl rfl) rfl rfl rfl (gj_step (y_assign rfl) rfl rfl rfl (gj_nil ?_)))))))
    refine ej_th (cj_seq ?_)
    refine cj_regionG (gj_step (y_move rfl) rfl rfl rfl (gj_step (y_fa fa181_2 rfl) rfl rfl rfl (gj_step (y_load1 Tryz.isAgg3 rfl rfl) rfl rfl rfl (gj_step (y_min rfl rfl) rfl rfl rfl (gj_step (y_assign rfl) rfl rfl rfl (gj_nil ?_))))))
    refine ej_th (cj_ret ?_)
    refine ej_ret1 rfl Tryz.results117 rfl (fun w' hp => ⟨?_, hp.below⟩)
    rw [mostOf, if_pos h15]
  · have h15b := h15
    try simp only [sxb] at h15
    refine cj_skip (ej_th (cj_seq ?_))
    refine cj_regionG (gj_step (y_move rfl) rfl rfl rfl (gj_step (y_fa fa181_2 rfl) rfl rfl rfl (gj_step (y_load1 Tryz.isAgg3 rfl rfl) rfl rfl rfl (gj_step (y_min rfl rfl) rfl rfl rfl (gj_step (y_assign rfl) rfl rfl rfl (gj_nil ?_))))))
    refine ej_th (cj_ret ?_)
    refine ej_ret1 rfl Tryz.results117 rfl (fun w' hp => ⟨?_, hp.below⟩)
    rw [mostOf, if_neg (by omega)]

theorem k_Most (fr fl cap lo hi : Int) (w : World)  : Calls Tryz.prog 89 #[.agg #[.int .i64 fr, .int .i64 fl, .int .i64 cap], .agg #[.int .i64 lo, .int .i64 hi]] w (fun e w' => e = .returned (.tuple #[.int .i64 (MostN fr fl cap lo hi), .int .i64 (MostE fr fl cap lo hi)]) ∧ Grow w w') := by
  refine enter_pure (args := [.agg #[.int .i64 fr, .int .i64 fl, .int .i64 cap], .agg #[.int .i64 lo, .int .i64 hi]]) [] Tryz.func89 rfl (by rw [Tryz.ntmps89]; simp) (by simp) ?_
  refine cj_seq (cj_region ?_)
  refine oj_box rfl rfl rfl (fun b2 => ?_)
  refine oj_box rfl rfl rfl (fun b3 => ?_)
  refine oj_step (y_assign rfl) rfl rfl rfl ?_
  refine oj_step (y_assign rfl) rfl rfl rfl ?_
  refine oj_nil ?_
  refine ej_th (cj_seq (cj_seq ?_))
  refine cj_regionG ?_
  refine gj_step (y_loadN Tryz.isAgg181 Tryz.sizeOf181 rfl) rfl rfl rfl (?_)
  refine gj_step (y_call Tryz.call115 rfl (fun w hp => k_CheckTerms _ _ _ w)) rfl rfl rfl ?_
  refine gj_step (y_assign rfl) rfl rfl rfl (?_)
  refine gj_nil ?_
  refine ej_th (cj_seq ?_)
  refine cj_regionG (gj_step (y_move rfl) rfl rfl rfl (gj_step (y_neq rfl rfl) rfl rfl rfl (gj_nil ?_)))
  refine ej_th ?_
  refine cj_cond rfl (fun h10 => ?_) (fun h10 => ?_)
  · have h10b := h10
    try simp only [sxb] at h10
    rw [errT_ne] at h10
    refine cj_seq ?_
    refine cj_regionG (gj_step (y_move rfl) rfl rfl rfl (gj_step (y_assign rfl) rfl rfl rfl (gj_step (y_assign rfl) rfl rfl rfl (gj_nil ?_))))
    refine ej_th (cj_ret (ej_then_ret ?_))
    refine ej_ret2 rfl Tryz.results89 rfl rfl (fun w' hp => ⟨?_, hp.below⟩)
    rw [MostN, MostE, h10]; rfl
  · have h10b := h10
    try simp only [sxb] at h10
    rw [errT_eq] at h10
    refine cj_skip (ej_th (cj_seq (cj_seq ?_)))
    refine cj_regionG ?_
    refine gj_step (y_loadN Tryz.isAgg105 Tryz.sizeOf105 rfl) rfl rfl rfl (?_)
    refine gj_step (y_call Tryz.call116 rfl (fun w hp => k_span _ _ _ w)) rfl rfl rfl ?_
    refine gj_step (y_not rfl) rfl rfl rfl (?_)
    refine gj_nil ?_
    refine ej_th ?_
    refine cj_cond rfl (fun h14 => ?_) (fun h14 => ?_)
    · have h14b := h14
      try simp only [sxb] at h14
      have hs : spanOk lo hi 2147483648 = false := not_t h14b
      refine cj_seq ?_
      refine cj_regionG (gj_step (y_assign rfl) rfl rfl rfl (gj_step (y_assign rfl) rfl rfl rfl (gj_nil ?_)))
      refine ej_th (cj_ret (ej_then_ret ?_))
      refine ej_ret2 rfl Tryz.results89 rfl rfl (fun w' hp => ⟨?_, hp.below⟩)
      rw [MostN, MostE, h10, hs]; rfl
    · have h14b := h14
      try simp only [sxb] at h14
      have hs : spanOk lo hi 2147483648 = true := not_f h14b
      have hs2 := hs
      simp only [spanOk, Bool.and_eq_true, decide_eq_true_eq] at hs2
      refine cj_skip (ej_th (cj_seq ?_))
      refine cj_regionG ?_
      refine gj_step (y_loadN Tryz.isAgg181 Tryz.sizeOf181 rfl) rfl rfl rfl (gj_step (y_loadN Tryz.isAgg105 Tryz.sizeOf105 rfl) rfl rfl rfl (?_))
      refine gj_step (y_call Tryz.call117 rfl (fun w hp => k_most _ _ _ _ _ w (by assumption) (by omega))) rfl rfl rfl ?_
      refine gj_step (y_assign rfl) rfl rfl rfl (gj_step (y_assign rfl) rfl rfl rfl (?_))
      refine gj_nil ?_
      refine ej_th (cj_ret ?_)
      refine ej_ret2 rfl Tryz.results89 rfl rfl (fun w' hp => ⟨?_, hp.below⟩)
      rw [MostN, MostE, h10, hs]; rfl

end Go.Proofs.YtppfniekcgnmjaaGreat.Le
namespace Go.Proofs.YtppfniekcgnmjaaGreat.Au
open Go.Sx Go.RowKit
set_option maxRecDepth 20000
theorem fa112_0 : FieldIs Tryz.prog 112 0 0 3 true := ⟨⟨_, _, Tryz.underlying112, rfl, rfl, Tryz.sizeOf62, Tryz.isAgg62, by decide⟩⟩
theorem fa117_0 : FieldIs Tryz.prog 117 0 0 1 false := ⟨⟨_, _, Tryz.underlying117, rfl, rfl, Tryz.sizeOf3, Tryz.isAgg3, by decide⟩⟩
theorem fa117_1 : FieldIs Tryz.prog 117 1 1 1 false := ⟨⟨_, _, Tryz.underlying117, rfl, rfl, Tryz.sizeOf3, Tryz.isAgg3, by decide⟩⟩
theorem fa62_0 : FieldIs Tryz.prog 62 0 0 1 false := ⟨⟨_, _, Tryz.underlying62, rfl, rfl, Tryz.sizeOf3, Tryz.isAgg3, by decide⟩⟩
theorem fa62_1 : FieldIs Tryz.prog 62 1 1 1 false := ⟨⟨_, _, Tryz.underlying62, rfl, rfl, Tryz.sizeOf3, Tryz.isAgg3, by decide⟩⟩
theorem fa62_2 : FieldIs Tryz.prog 62 2 2 1 false := ⟨⟨_, _, Tryz.underlying62, rfl, rfl, Tryz.sizeOf60, Tryz.isAgg60, by decide⟩⟩
end Go.Proofs.YtppfniekcgnmjaaGreat.Au
namespace Go.Proofs.YtppfniekcgnmjaaGreat.Au
open Go.Sx Go.RowKit Am
set_option maxRecDepth 20000
theorem k_within (n lo hi : Int) (w : World)  : Calls Tryz.prog 78 #[.int .i64 n, .int .i64 lo, .int .i64 hi] w (fun e w' => e = .returned (.bool (decide (lo ≤ n) && decide (n ≤ hi))) ∧ Grow w w') := by
  refine enter_pure (args := [.int .i64 n, .int .i64 lo, .int .i64 hi]) [] Tryz.func78 rfl (by rw [Tryz.ntmps78]; simp) (by simp) ?_
  refine cj_seq ?_
  refine cj_regionG (gj_step (y_assign rfl) rfl rfl rfl (gj_nil ?_))
  refine ej_th (cj_seq ?_)
  refine cj_regionG (gj_step (y_move rfl) rfl rfl rfl (gj_step (y_move rfl) rfl rfl rfl (gj_step (y_geq rfl rfl) rfl rfl rfl (gj_step (y_move rfl) rfl rfl rfl (gj_g 3 10 13 rfl rfl rfl rfl (fun hg10 => gj_yes rfl rfl rfl (y_move rfl) rfl rfl (gj_yes rfl rfl rfl (y_move rfl) rfl rfl (gj_yes rfl rfl rfl (y_leq rfl rfl) rfl rfl (gj_nil rfl)))) (gj_step (y_and rfl rfl rfl) rfl rfl rfl (gj_step (y_assign rfl) rfl rfl rfl (gj_nil ?_))))))))
  refine ej_th (cj_ret ?_)
  exact ej_ret1 rfl Tryz.results78 rfl (fun w' hp => ⟨rfl, hp.below⟩)

theorem k_From (lo n hi : Int) (w : World)  : Calls Tryz.prog 11 #[.int .i64 lo, .int .i64 n, .int .i64 hi] w (fun e w' => e = .returned (.bool (decide (lo ≤ n) && decide (n ≤ hi))) ∧ Grow w w') := by
  refine enter_pure (args := [.int .i64 lo, .int .i64 n, .int .i64 hi]) [] Tryz.func11 rfl (by rw [Tryz.ntmps11]; simp) (by simp) ?_
  refine cj_seq ?_
  refine cj_regionG (gj_step (y_assign rfl) rfl rfl rfl (gj_nil ?_))
  refine ej_th (cj_seq ?_)
  refine cj_regionG (gj_step (y_move rfl) rfl rfl rfl (gj_step (y_move rfl) rfl rfl rfl (gj_step (y_leq rfl rfl) rfl rfl rfl (gj_step (y_move rfl) rfl rfl rfl (gj_g 3 10 13 rfl rfl rfl rfl (fun hg10 => gj_yes rfl rfl rfl (y_move rfl) rfl rfl (gj_yes rfl rfl rfl (y_move rfl) rfl rfl (gj_yes rfl rfl rfl (y_leq rfl rfl) rfl rfl (gj_nil rfl)))) (gj_step (y_and rfl rfl rfl) rfl rfl rfl (gj_step (y_assign rfl) rfl rfl rfl (gj_nil ?_))))))))
  refine ej_th (cj_ret ?_)
  exact ej_ret1 rfl Tryz.results11 rfl (fun w' hp => ⟨rfl, hp.below⟩)

theorem k_Check (st rv : Int) (lad : List RiseV) (Al : Option Addr) (cl : Nat) (w : World) (hlad : Rd w 2 encRi Al lad) : Calls Tryz.prog 48 #[.agg #[.int .i64 st, .int .i64 rv, .slice Al lad.length cl]] w (fun e w' => e = .returned (.int .i64 (lotE st rv lad)) ∧ Grow w w') := by
  have hlen := hlad.len
  refine enter_pure (args := [.agg #[.int .i64 st, .int .i64 rv, .slice Al lad.length cl]]) [sl (fun b => b < w.heap.size) 2 encRi Al lad] Tryz.func48 rfl (by rw [Tryz.ntmps48]; simp) (fun g hg => by simp at hg; subst hg; exact ⟨hlad, fun _ h => h⟩) ?_
  refine cj_seq (cj_region ?_)
  refine oj_box rfl rfl rfl (fun b1 => ?_)
  refine oj_step (y_assign rfl) rfl rfl rfl ?_
  refine oj_nil ?_
  refine ej_th (cj_seq (cj_seq ?_))
  refine cj_regionG ?_
  refine gj_step (y_fa0 fa62_0 rfl) rfl rfl rfl (gj_step (y_load1 Tryz.isAgg3 rfl rfl) rfl rfl rfl (?_))
  refine gj_step (y_call Tryz.call78 rfl (fun w hp => k_within _ _ _ w)) rfl rfl rfl ?_
  refine gj_step (y_not rfl) rfl rfl rfl (gj_step (y_move rfl) rfl rfl rfl (?_))
  refine gj_g 4 9 13 rfl rfl rfl rfl (fun hg9 => gj_yes rfl rfl rfl (y_fa fa62_1 rfl) rfl rfl (gj_yes rfl rfl rfl (y_load1 Tryz.isAgg3 rfl rfl) rfl rfl (gj_yes rfl rfl rfl (y_call Tryz.call78 rfl (fun w hp => k_within _ _ _ w)) rfl rfl (gj_yes rfl rfl rfl (y_not rfl) rfl rfl (gj_nil rfl))))) ?_
  refine gj_step (y_or rfl rfl rfl) rfl rfl rfl (gj_step (y_move rfl) rfl rfl rfl (?_))
  refine gj_g 5 15 20 rfl rfl rfl rfl (fun hg15 => gj_yes rfl rfl rfl (y_fa fa62_2 rfl) rfl rfl (gj_yes rfl rfl rfl (y_load1 Tryz.isAgg60 rfl rfl) rfl rfl (gj_yes rfl rfl rfl (y_lenA Tryz.underlying60 rfl) rfl rfl (gj_yes rfl rfl rfl (y_call Tryz.call78 rfl (fun w hp => k_within _ _ _ w)) rfl rfl (gj_yes rfl rfl rfl (y_not rfl) rfl rfl (gj_nil rfl)))))) ?_
  refine gj_step (y_or rfl rfl rfl) rfl rfl rfl (gj_step (y_move rfl) rfl rfl rfl (?_))
  refine gj_g 6 22 28 rfl rfl rfl rfl (fun hg22 => gj_yes rfl rfl rfl (y_fa fa62_2 rfl) rfl rfl (gj_yes rfl rfl rfl (y_load1 Tryz.isAgg60 rfl rfl) rfl rfl (gj_yes rfl rfl rfl (y_ixR (reads_sl) Tryz.underlying60 Tryz.sizeOf117 rfl rfl (⟨by omega, by have := hg22; simp only [sxb] at this; omega⟩)) rfl rfl (gj_yes rfl rfl rfl (y_faE fa117_0 rfl) rfl rfl (gj_yes rfl rfl rfl (y_ld1 (reads_sl) Tryz.isAgg3 rfl (geq default (by have := hg22; simp only [sxb] at this; omega)) rfl) rfl rfl (gj_yes rfl rfl rfl (y_neq rfl rfl) rfl rfl (gj_nil rfl))))))) ?_
  refine gj_step (y_or rfl rfl rfl) rfl rfl rfl (?_)
  refine gj_nil ?_
  refine ej_th ?_
  refine cj_cond rfl (fun h29 => ?_) (fun h29 => ?_)
  · have h29b := h29
    try simp only [sxb] at h29
    rw [lotH_V] at h29b
    have hno := not_t h29b
    refine cj_seq ?_
    refine cj_regionG (gj_step (y_assign rfl) rfl rfl rfl (gj_nil ?_))
    refine ej_th (cj_ret (ej_then_ret ?_))
    refine ej_ret1 rfl Tryz.results48 rfl (fun w' hp => ⟨?_, hp.below⟩)
    rw [lotE, lotB_H, hno]; rfl
  · have h29b := h29
    try simp only [sxb] at h29
    rw [lotH_V] at h29b
    have hyes := not_f h29b
    have hz : (lad.getD 0 default).fr = 0 := (lotH_z hyes).2
    refine cj_skip (ej_th (cj_seq (cj_seq ?_)))
    refine cj_regionG (gj_step (y_fa fa62_2 rfl) rfl rfl rfl (gj_step (y_load1 Tryz.isAgg60 rfl rfl) rfl rfl rfl (gj_step (y_lenA Tryz.underlying60 rfl) rfl rfl rfl (gj_step (y_move rfl) rfl rfl rfl (gj_nil ?_)))))
    refine ej_th (cj_block ?_)
    refine cj_lpic (X := Nat) [(1, _), (31, _), (32, _)] (fun k => k ≤ lad.length ∧ (∀ j, j < k → 0 ≤ (lad.getD j default).fr ∧ (lad.getD j default).fr ≤ 100000) ∧ ladG (prevAt lad k) (lad.drop k) = ladG none lad) (fun k => [(33, .int .i64 k)]) (fun k => lad.length - k) 0 (⟨Nat.zero_le _, fun j h => absurd h (Nat.not_lt_zero _), rfl⟩) ⟨rfl, rfl, rfl, rfl, trivial⟩ ?_
    rintro k ⟨hk, hpv, hsk⟩
    dsimp only [List.cons_append, List.nil_append]
    refine cj_seq ?_
    refine cj_regionG (gj_step (y_lss rfl rfl) rfl rfl rfl (gj_nil ?_))
    refine ej_th (cj_seq ?_)
    refine cj_cond rfl (fun h34 => ?_) (fun h34 => ?_)
    · have h34b := h34
      try simp only [sxb] at h34
      obtain ⟨r, hx⟩ : ∃ r, lad[k]? = some r := ⟨_, List.getElem?_eq_getElem (by omega)⟩
      rw [ladG_drop lad k r hx] at hsk
      have hgr : lad.getD k default = r := by rw [List.getD_eq_getElem?_getD, hx]; rfl
      have hV := step_V lad k r hk
      refine cj_skip (ej_th (cj_seq (cj_block (cj_seq (cj_region ?_)))))
      refine oj_step (y_move rfl) rfl rfl rfl ?_
      refine oj_step (y_ixR (reads_sl) Tryz.underlying60 Tryz.sizeOf117 rfl rfl (⟨by omega, by omega⟩)) rfl rfl rfl ?_
      refine oj_step (y_ldW (reads_sl) Tryz.isAgg117 Tryz.sizeOf117 rfl (hx) (fun _ => rfl)) rfl rfl rfl ?_
      refine oj_alloc Tryz.zeroValue117 rfl rfl (fun b4 => ?_)
      refine oj_step (y_assign rfl) rfl rfl rfl ?_
      refine oj_store rfl rfl rfl rfl Tryz.sizeOf117 rfl ?_
      refine oj_nil ?_
      refine ej_th (cj_seq ?_)
      refine cj_draw (by kernel_rfl) (by kernel_rfl) ?_
      refine gj_step (y_fa fa117_1 rfl) rfl rfl rfl (gj_step (y_load1 Tryz.isAgg3 rfl rfl) rfl rfl rfl (?_))
      refine gj_step (y_call Tryz.call78 rfl (fun w hp => k_within _ _ _ w)) rfl rfl rfl ?_
      refine gj_step (y_not rfl) rfl rfl rfl (gj_step (y_move rfl) rfl rfl rfl (?_))
      refine gj_g 16 42 58 rfl rfl rfl rfl (fun hg42 => gj_yes rfl rfl rfl (y_move rfl) rfl rfl (gj_yes rfl rfl rfl (y_gtr rfl rfl) rfl rfl (gj_yes rfl rfl rfl (y_move rfl) rfl rfl (gj_g 12 45 57 rfl rfl rfl rfl (fun hg45 => gj_yes rfl rfl rfl (y_fa0 fa117_0 rfl) rfl rfl (gj_yes rfl rfl rfl (y_load1 Tryz.isAgg3 rfl rfl) rfl rfl (gj_yes rfl rfl rfl (y_fa fa62_2 rfl) rfl rfl (gj_yes rfl rfl rfl (y_load1 Tryz.isAgg60 rfl rfl) rfl rfl (gj_yes rfl rfl rfl (y_move rfl) rfl rfl (gj_yes rfl rfl rfl (y_sub rfl rfl (by omega)) rfl rfl (gj_yes rfl rfl rfl (y_ixR (reads_sl) Tryz.underlying60 Tryz.sizeOf117 rfl rfl (⟨by have := hg45; simp only [sxb] at this; omega, by have := hg45; simp only [sxb] at this; omega⟩)) rfl rfl (gj_yes rfl rfl rfl (y_faE fa117_0 rfl) rfl rfl (gj_yes rfl rfl rfl (y_ld1 (reads_sl) Tryz.isAgg3 rfl (geq default (by have := hg45; simp only [sxb] at this; omega)) rfl) rfl rfl (gj_yes rfl rfl rfl (y_add rfl rfl (by have := hpv ((k : Int) - 1).toNat (by have := hg45; simp only [sxb] at this; omega); omega)) rfl rfl (gj_yes rfl rfl rfl (y_call Tryz.call78 rfl (fun w hp => k_within _ _ _ w)) rfl rfl (gj_yes rfl rfl rfl (y_not rfl) rfl rfl (gj_nil rfl))))))))))))) (gj_yes rfl rfl rfl (y_and rfl rfl rfl) rfl rfl (gj_nil rfl)))))) ?_
      refine gj_step (y_or rfl rfl rfl) rfl rfl rfl (?_)
      refine gj_nil ?_
      refine ej_th ?_
      refine cj_cond rfl (fun h59 => ?_) (fun h59 => ?_)
      · have h59b := h59
        try simp only [sxb] at h59
        rw [hV] at h59b
        refine cj_seq ?_
        refine cj_regionG (gj_step (y_assign rfl) rfl rfl rfl (gj_nil ?_))
        refine ej_th (cj_ret (ej_blk_ret (ej_then_ret (ej_then_ret (ej_blk_ret (ej_then_ret ?_))))))
        refine ej_ret1 rfl Tryz.results48 rfl (fun w' hp => ⟨?_, hp.below⟩)
        rw [lotE, lotB_H, hyes, ← hsk, not_t h59b]; rfl
      · have h59b := h59
        try simp only [sxb] at h59
        rw [hV] at h59b
        have hstep := not_f h59b
        have hfr : 0 ≤ r.fr ∧ r.fr ≤ 100000 := step_fr hx hstep hpv hz
        refine cj_skip (ej_blk (ej_th ?_))
        refine cj_regionG (gj_step (y_add rfl rfl (by omega)) rfl rfl rfl (gj_step (y_move rfl) rfl rfl rfl (gj_nil ?_)))
        refine ej_nx (k + 1) (by omega) ⟨by omega, fun j hj => ?_, by rw [← hsk, hstep, Bool.true_and]⟩ ⟨rfl, rfl, rfl, rfl, trivial⟩
        by_cases e : j = k
        · rw [e, hgr]; exact hfr
        · exact hpv j (by omega)
    · have h34b := h34
      try simp only [sxb] at h34
      refine cj_exit (ej_then_exit (ej_then_exit (ej_blk_hit (ej_th (cj_seq ?_)))))
      refine cj_regionG (gj_step (y_assign rfl) rfl rfl rfl (gj_nil ?_))
      refine ej_th (cj_ret ?_)
      refine ej_ret1 rfl Tryz.results48 rfl (fun w' hp => ⟨?_, hp.below⟩)
      rw [lotE, lotB_H, hyes, ← hsk, List.drop_of_length_le (by omega)]; rfl

theorem k_rungs1 (st rv : Int) (lad : List RiseV) (Al : Option Addr) (cl : Nat) (bx : Nat) (fp : Nat → Prop) (hok : LotOk st rv lad) : IterX Tryz.prog 106 #[.pointer (some ⟨bx, 0, none⟩)] (fun p : Int => [.int .i64 p]) (rgL lad st) [ownB bx (cellsB 112 [.int .i64 st, .int .i64 rv, .slice Al lad.length cl]), sl fp 2 encRi Al lad] := by
  intro l J Jx w hgr hadd hdrop hfacts hgrx hdrx hfx hround hJ0
  have hst := hok.st
  have hl8 := hok.len
  have hll := hok.lad
  have hl1 := hll.ne
  have hlz := hll.zero
  refine enter_pure (args := [.func (.yield l) #[] #[], .pointer (some ⟨bx, 0, none⟩)]) [ownB bx (cellsB 112 [.int .i64 st, .int .i64 rv, .slice Al lad.length cl]), sl fp 2 encRi Al lad] Tryz.func106 rfl (by rw [Tryz.ntmps106]; simp) (fun g hg => hfacts [] 0 w hJ0 g (List.mem_append_left _ hg)) ?_
  refine cj_seq ?_
  refine cj_regionG (gj_step (y_assign rfl) rfl rfl rfl (gj_nil ?_))
  refine ej_th (cj_seq ?_)
  refine cj_regionG (gj_step (y_fa0 fa112_0 rfl) rfl rfl rfl (gj_step (y_fa0 fa62_0 rfl) rfl rfl rfl (gj_step (y_loadS1 Tryz.isAgg3 rfl rfl) rfl rfl rfl (gj_step (y_assign rfl) rfl rfl rfl (gj_nil ?_)))))
  refine ej_th (cj_block ?_)
  refine cj_loopB (X := Nat × Nat × Int) (fun ⟨k, a, p⟩ => k ≤ (rgL lad st).length ∧ (a < lad.length ∧ (lad.getD a default).fr ≤ p) ∧ (1 ≤ p ∧ p ≤ 200000) ∧ (rgL lad st).drop k = rgL lad p) (fun ⟨k, a, p⟩ => [(0, .func (.yield l) #[] #[]), (1, .pointer (some ⟨bx, 0, none⟩)), (3, .int .i64 (a : Nat)), (4, .int .i64 p)]) (fun ⟨k, a, p⟩ => fun W => J [] k W) [ownB bx (cellsB 112 [.int .i64 st, .int .i64 rv, .slice Al lad.length cl]), sl fp 2 encRi Al lad] (fun ⟨k, a, p⟩ => (200001 - p).toNat) (0, 0, st) (⟨Nat.zero_le _, ⟨by omega, by omega⟩, by omega, rfl⟩) ⟨rfl, rfl, rfl, rfl, trivial⟩ (fun w1 hp => hgr _ _ _ _ hJ0 hp.below) (fun x W h g hg => hfacts [] _ W h g (List.mem_append_left _ hg)) ?_
  rintro ⟨k, a, p⟩ W ⟨hk, ⟨hal, haf⟩, hpb, hsk⟩ hJW
  refine cj_seq (cj_seq ?_)
  refine cj_regionG (gj_step (y_move rfl) rfl rfl rfl (gj_step (y_leq rfl rfl) rfl rfl rfl (gj_nil ?_)))
  refine ej_th ?_
  refine cj_cond rfl (fun h9 => ?_) (fun h9 => ?_)
  · have h9b := h9
    try simp only [sxb] at h9
    obtain ⟨hget, hdn⟩ := rg_get hll (by omega) (by omega) hsk
    refine cj_skip (ej_th (cj_seq (cj_block (cj_seq (cj_seq (cj_region ?_))))))
    refine oj_step (y_move rfl) rfl rfl rfl ?_
    refine oj_step (y_move rfl) rfl rfl rfl ?_
    refine oj_yieldB (T := TB J Jx (k + 1)) [ownB bx (cellsB 112 [.int .i64 st, .int .i64 rv, .slice Al lad.length cl]), sl fp 2 encRi Al lad] rfl rfl rfl (fun w1 hp => hround [] k p w1 hget (hgr _ _ _ _ hJW hp.below)) rfl (fun b W h g hg => ?_) (fun b21 W21 hT21 => ?_)
    · cases b with
      | true => exact hfacts [] _ W h g (List.mem_append_left _ hg)
      | false => exact hfx [] _ W h g (List.mem_append_left _ hg)
    rotate_left
    refine oj_step (y_not rfl) rfl rfl rfl ?_
    refine oj_nil ?_
    refine ej_th ?_
    refine cj_cond rfl (fun h22 => ?_) (fun h22 => ?_)
    · have h22b := h22
      try simp only [sxb] at h22
      have hb21 : b21 = false := not_t h22b
      subst hb21
      refine cj_ret (ej_then_ret (ej_blk_ret (ej_then_ret (ej_then_ret (ej_blk_ret ?_)))))
      exact ej_ret0 rfl Tryz.results106 (fun w' hp => ⟨⟨_, rfl⟩, .inr ⟨k + 1, hgrx _ _ _ _ hT21 hp.below⟩⟩)
    · have h22b := h22
      try simp only [sxb] at h22
      have hb21 : b21 = true := not_f h22b
      subst hb21
      have hJ2 : J [] (k + 1) W21 := hT21
      have hkl := (List.getElem?_eq_some_iff.1 hget).1
      refine cj_skip (ej_th (cj_block ?_))
      refine cj_loopB (X := Nat) (fun b => b < lad.length ∧ (lad.getD b default).fr ≤ p) (fun b => [(0, .func (.yield l) #[] #[]), (1, .pointer (some ⟨bx, 0, none⟩)), (3, .int .i64 (b : Nat)), (4, .int .i64 p)]) (fun b => fun W => J [] (k + 1) W) [ownB bx (cellsB 112 [.int .i64 st, .int .i64 rv, .slice Al lad.length cl]), sl fp 2 encRi Al lad] (fun b => lad.length - b) a (⟨hal, haf⟩) ⟨rfl, rfl, rfl, rfl, trivial⟩ (fun w1 hp => hgr _ _ _ _ hJ2 hp.below) (fun x W h g hg => hfacts [] _ W h g (List.mem_append_left _ hg)) ?_
      rintro b W2 ⟨hbl, hbf⟩ hJW2
      refine cj_seq (cj_seq ?_)
      refine cj_regionG (gj_step (y_move rfl) rfl rfl rfl (gj_step (y_add rfl rfl (by omega)) rfl rfl rfl (gj_step (y_fa0 fa112_0 rfl) rfl rfl rfl (gj_step (y_fa fa62_2 rfl) rfl rfl rfl (gj_step (y_loadS1 Tryz.isAgg60 rfl rfl) rfl rfl rfl (gj_step (y_lenA Tryz.underlying60 rfl) rfl rfl rfl (gj_step (y_lss rfl rfl) rfl rfl rfl (gj_step (y_move rfl) rfl rfl rfl (gj_g 10 30 40 rfl rfl rfl rfl (fun hg30 => gj_yes rfl rfl rfl (y_fa0 fa112_0 rfl) rfl rfl (gj_yes rfl rfl rfl (y_fa fa62_2 rfl) rfl rfl (gj_yes rfl rfl rfl (y_loadS1 Tryz.isAgg60 rfl rfl) rfl rfl (gj_yes rfl rfl rfl (y_move rfl) rfl rfl (gj_yes rfl rfl rfl (y_add rfl rfl (by omega)) rfl rfl (gj_yes rfl rfl rfl (y_ixR (reads_sl) Tryz.underlying60 Tryz.sizeOf117 rfl rfl (⟨by have := hg30; simp only [sxb] at this; omega, by have := hg30; simp only [sxb] at this; omega⟩)) rfl rfl (gj_yes rfl rfl rfl (y_faE fa117_0 rfl) rfl rfl (gj_yes rfl rfl rfl (y_ld1 (reads_sl) Tryz.isAgg3 rfl (geq default (by have := hg30; simp only [sxb] at this; omega)) rfl) rfl rfl (gj_yes rfl rfl rfl (y_move rfl) rfl rfl (gj_yes rfl rfl rfl (y_leq rfl rfl) rfl rfl (gj_nil rfl))))))))))) (gj_step (y_and rfl rfl rfl) rfl rfl rfl (gj_nil ?_)))))))))))
      refine ej_th ?_
      refine cj_cond rfl (fun h41 => ?_) (fun h41 => ?_)
      · have h41b := h41
        try simp only [sxb] at h41
        rw [show (((b : Nat) : Int) + 1).toNat = b + 1 by omega] at h41b
        simp only [sxb] at h41b
        refine cj_skip (ej_th (cj_block ?_))
        refine cj_regionG (gj_step (y_move rfl) rfl rfl rfl (gj_step (y_add rfl rfl (by omega)) rfl rfl rfl (gj_step (y_assign rfl) rfl rfl rfl (gj_nil ?_))))
        refine ej_blk ?_
        rw [show ((b : Nat) : Int) + 1 = ((b + 1 : Nat) : Int) by omega]
        exact ej_nxB (b + 1) (by omega) ⟨by omega, by omega⟩ ⟨rfl, rfl, rfl, rfl, trivial⟩ (fun w1 hg => hgr _ _ _ _ hJW2 hg)
      · have h41b := h41
        try simp only [sxb] at h41
        rw [show (((b : Nat) : Int) + 1).toNat = b + 1 by omega] at h41b
        simp only [sxb] at h41b
        refine cj_exit (ej_then_exit (ej_then_exit (ej_blk_hit (ej_blk (ej_th ?_)))))
        refine cj_regionG (gj_step (y_move rfl) rfl rfl rfl (gj_step (y_fa0 fa112_0 rfl) rfl rfl rfl (gj_step (y_fa fa62_2 rfl) rfl rfl rfl (gj_step (y_loadS1 Tryz.isAgg60 rfl rfl) rfl rfl rfl (gj_step (y_move rfl) rfl rfl rfl (gj_step (y_ixR (reads_sl) Tryz.underlying60 Tryz.sizeOf117 rfl rfl (⟨by omega, by omega⟩)) rfl rfl rfl (gj_step (y_faE fa117_1 rfl) rfl rfl rfl (gj_step (y_ld1 (reads_sl) Tryz.isAgg3 rfl (geq default (by omega)) rfl) rfl rfl rfl (gj_step (y_add rfl rfl (by have := (hll.by1 _ (getD_mem (d := default) (by omega : b < lad.length))); rw [show ((b : Nat) : Int).toNat = b by omega]; omega)) rfl rfl rfl (gj_step (y_assign rfl) rfl rfl rfl (gj_nil ?_)))))))))))
        have hnx := at_next hll hbl hbf (fun h => by omega)
        have hby := byR_bd hll (p := p) (by omega)
        have hnp : nx lad p = p + byR lad p := rfl
        rw [show ((b : Nat) : Int).toNat = b by omega, hnx]
        exact ej_nxB (k + 1, b, nx lad p) (by first | omega | (simp only; omega)) ⟨by first | omega | (simp only; omega), ⟨hbl, by first | omega | (simp only; omega)⟩, by first | omega | (simp only; omega), hdn⟩ ⟨rfl, rfl, rfl, rfl, trivial⟩ (fun w1 hg => hgr _ _ _ _ hJW2 hg)
  · have h9b := h9
    try simp only [sxb] at h9
    have hke := rg_end hll (by omega) (by omega) hk hsk
    subst hke
    refine cj_exit (ej_then_exit (ej_then_exit (ej_blk_hit ?_)))
    exact ej_end0 rfl Tryz.results106 (fun w' hp => ⟨⟨_, rfl⟩, .inl (hgr _ _ _ _ hJW hp.below)⟩)

theorem k_rungs (st rv : Int) (lad : List RiseV) (Al : Option Addr) (cl : Nat) (w : World)  : Calls Tryz.prog 85 #[.agg #[.int .i64 st, .int .i64 rv, .slice Al lad.length cl]] w (fun e w' => ∃ x : Nat, e = .returned (.func (.func 106) #[] #[.pointer (some ⟨x, 0, none⟩)]) ∧ Grow w w' ∧ (∀ g ∈ ([] : List Fact), g.P w' ∧ ∀ b, g.fp b → w.heap.size ≤ b ∧ b < w'.heap.size) ∧ ([] : List Fact).Pairwise (fun f g => ∀ b, f.fp b → ¬ g.fp b) ∧ (∀ g ∈ [ownB x (cellsB 112 [.int .i64 st, .int .i64 rv, .slice Al lad.length cl])], g.P w' ∧ ∀ b, g.fp b → w.heap.size ≤ b ∧ b < w'.heap.size ∧ ∀ o ∈ ([] : List Fact), ¬ o.fp b)) := by
  refine enter_pure (args := [.agg #[.int .i64 st, .int .i64 rv, .slice Al lad.length cl]]) [] Tryz.func85 rfl (by rw [Tryz.ntmps85]; simp) (by simp) ?_
  refine cj_seq (cj_region ?_)
  refine oj_box rfl rfl rfl (fun b1 => ?_)
  refine oj_step (y_assign rfl) rfl rfl rfl ?_
  refine oj_nil ?_
  refine ej_th (cj_seq ?_)
  refine cj_regionG (gj_step (y_makeFunc rfl rfl) rfl rfl rfl (gj_step (y_assign rfl) rfl rfl rfl (gj_nil ?_)))
  refine ej_th (cj_ret ?_)
  exact ej_ret1 rfl Tryz.results85 rfl (fun w' hp => ⟨b1, rfl, hp.below, by simp, List.Pairwise.nil, fun g hg => ⟨(hp.own g hg).1, fun b hb => ⟨Nat.le_of_not_lt ((hp.own g hg).2 b hb).2, ((hp.own g hg).2 b hb).1, by simp⟩⟩⟩)

theorem k_rung (st rv : Int) (lad : List RiseV) (Al : Option Addr) (cl : Nat) (n : Int) (w : World) (hlad : Rd w 2 encRi Al lad) (hok : LotOk st rv lad) : Calls Tryz.prog 103 #[.agg #[.int .i64 st, .int .i64 rv, .slice Al lad.length cl], .int .i64 n] w (fun e w' => e = .returned (.int .i64 (rungR st lad n)) ∧ Grow w w') := by
  refine enter_pureM (args := [.agg #[.int .i64 st, .int .i64 rv, .slice Al lad.length cl], .int .i64 n]) [sl (fun b => b < w.heap.size) 2 encRi Al lad] Tryz.func103 rfl (by rw [Tryz.ntmps103]; simp) (fun g hg => by simp at hg; subst hg; exact ⟨hlad, fun _ h => h⟩) ?_
  refine cj_seq (cj_region ?_)
  refine oj_box rfl rfl rfl (fun b2 => ?_)
  refine oj_box rfl rfl rfl (fun b3 => ?_)
  refine oj_step (y_assign rfl) rfl rfl rfl ?_
  refine oj_nil ?_
  refine ej_th (cj_seq (cj_region ?_))
  refine oj_alloc Tryz.zeroValue3 rfl rfl (fun b5 => ?_)
  refine oj_store rfl rfl rfl rfl Tryz.sizeOf3 rfl ?_
  refine oj_nil ?_
  refine ej_th (cj_seq (cj_seq (cj_region ?_)))
  refine oj_step (y_loadN Tryz.isAgg112 Tryz.sizeOf112 rfl) rfl rfl rfl ?_
  refine oj_call (X := Nat) (fun z => .func (.func 106) #[] #[.pointer (some ⟨z, 0, none⟩)]) (fun _ => []) (fun z => [ownB z (cellsB 112 [.int .i64 st, .int .i64 rv, .slice Al lad.length cl])]) Tryz.call85 rfl (fun w hp => k_rungs st rv lad Al cl w) rfl (fun bx => ?_)
  dsimp only [List.nil_append, List.cons_append]
  refine oj_nil ?_
  refine ej_th (cj_block ?_)
  refine cj_rangeX (k_rungs1 st rv lad Al cl bx (fun b => b < w.heap.size) hok) (Y := Int) (Z := Unit) (fun k y => rungF n ((rgL lad st).drop k) y = rungF n (rgL lad st) 0) (fun _ y => [ownB b5 (cellsB 3 [.int .i64 y]), ownB b3 (cellsB 3 [.int .i64 n]), ownB b2 (cellsB 112 [.int .i64 st, .int .i64 rv, .slice Al lad.length cl])]) (fun _ => .exit 0) (fun _ => [ownB b5 (cellsB 3 [.int .i64 (rungF n (rgL lad st) 0)]), ownB b3 (cellsB 3 [.int .i64 n]), ownB b2 (cellsB 112 [.int .i64 st, .int .i64 rv, .slice Al lad.length cl])]) (0 : Int) rfl rfl Tryz.call106 (fun _ => rfl) rfl ?_ ?_ ?_
  · rintro Xs lo Db r0 r1 k p y hp9 hy
    rw [rungF_drop n y _ k p hp9] at hy
    dsimp only [List.cons_append, List.nil_append]
    refine cj_regionG (gj_step (y_assign rfl) rfl rfl rfl (gj_nil ?_))
    refine ej_beg (cj_block (cj_seq (cj_seq ?_)))
    refine cj_regionG (gj_step (y_move rfl) rfl rfl rfl (gj_step (y_load1 Tryz.isAgg3 rfl rfl) rfl rfl rfl (gj_step (y_gtr rfl rfl) rfl rfl rfl (gj_nil ?_))))
    refine ej_th ?_
    refine cj_cond rfl (fun h12 => ?_) (fun h12 => ?_)
    · have h12b := h12
      try simp only [sxb] at h12
      refine cj_exit (ej_then_exit (ej_blk_pass rfl ?_))
      rw [if_pos (by omega)] at hy
      subst hy
      exact ej_rdx () rfl
    · have h12b := h12
      try simp only [sxb] at h12
      refine cj_skip (ej_th (cj_region ?_))
      refine oj_step (y_move rfl) rfl rfl rfl ?_
      refine oj_store rfl rfl rfl rfl Tryz.sizeOf3 rfl ?_
      refine oj_nil ?_
      refine ej_blk ?_
      rw [if_neg (by omega)] at hy
      exact ej_rd p hy
  · rintro Db y hy
    rw [List.drop_of_length_le (Nat.le_refl _)] at hy
    have hy2 : y = rungF n (rgL lad st) 0 := hy
    subst hy2
    refine ej_blk (ej_th (cj_seq ?_))
    refine cj_regionG (gj_step (y_load1 Tryz.isAgg3 rfl rfl) rfl rfl rfl (gj_step (y_assign rfl) rfl rfl rfl (gj_nil ?_)))
    refine ej_th (cj_ret ?_)
    exact ej_retM1 rfl Tryz.results103 rfl (fun w' hp => ⟨rfl, hp.below⟩)
  · rintro Db -
    refine cj_exit (ej_blk_hit (ej_th (cj_seq ?_)))
    refine cj_regionG (gj_step (y_load1 Tryz.isAgg3 rfl rfl) rfl rfl rfl (gj_step (y_assign rfl) rfl rfl rfl (gj_nil ?_)))
    refine ej_th (cj_ret ?_)
    exact ej_retM1 rfl Tryz.results103 rfl (fun w' hp => ⟨rfl, hp.below⟩)

theorem k_behind (st rv : Int) (lad : List RiseV) (Al : Option Addr) (cl : Nat) (n : Int) (w : World) (hlad : Rd w 2 encRi Al lad) (hok : LotOk st rv lad) : Calls Tryz.prog 51 #[.agg #[.int .i64 st, .int .i64 rv, .slice Al lad.length cl], .int .i64 n] w (fun e w' => e = .returned (.int .i64 (behF n (rgL lad st))) ∧ Grow w w') := by
  refine enter_pureM (args := [.agg #[.int .i64 st, .int .i64 rv, .slice Al lad.length cl], .int .i64 n]) [sl (fun b => b < w.heap.size) 2 encRi Al lad] Tryz.func51 rfl (by rw [Tryz.ntmps51]; simp) (fun g hg => by simp at hg; subst hg; exact ⟨hlad, fun _ h => h⟩) ?_
  refine cj_seq (cj_region ?_)
  refine oj_box rfl rfl rfl (fun b2 => ?_)
  refine oj_box rfl rfl rfl (fun b3 => ?_)
  refine oj_alloc Tryz.zeroValue3 rfl rfl (fun b4 => ?_)
  refine oj_nil ?_
  refine ej_th (cj_seq (cj_seq (cj_region ?_)))
  refine oj_step (y_loadN Tryz.isAgg112 Tryz.sizeOf112 rfl) rfl rfl rfl ?_
  refine oj_call (X := Nat) (fun z => .func (.func 106) #[] #[.pointer (some ⟨z, 0, none⟩)]) (fun _ => []) (fun z => [ownB z (cellsB 112 [.int .i64 st, .int .i64 rv, .slice Al lad.length cl])]) Tryz.call85 rfl (fun w hp => k_rungs st rv lad Al cl w) rfl (fun bx => ?_)
  dsimp only [List.nil_append, List.cons_append]
  refine oj_nil ?_
  refine ej_th (cj_block ?_)
  refine cj_rangeX (k_rungs1 st rv lad Al cl bx (fun b => b < w.heap.size) hok) (Y := Unit) (Z := Unit) (fun k _ => behF n ((rgL lad st).drop k) = behF n (rgL lad st)) (fun _ _ => [ownB b4 (cellsB 3 [.int .i64 0]), ownB b3 (cellsB 3 [.int .i64 n]), ownB b2 (cellsB 112 [.int .i64 st, .int .i64 rv, .slice Al lad.length cl])]) (fun _ => .ret) (fun _ => [ownB b4 (cellsB 3 [.int .i64 (behF n (rgL lad st))]), ownB b3 (cellsB 3 [.int .i64 n]), ownB b2 (cellsB 112 [.int .i64 st, .int .i64 rv, .slice Al lad.length cl])]) () rfl rfl Tryz.call106 (fun _ => rfl) rfl ?_ ?_ ?_
  · rintro Xs lo Db r0 r1 k p - hp9 hy
    rw [behF_drop n _ k p hp9] at hy
    dsimp only [List.cons_append, List.nil_append]
    refine cj_regionG (gj_step (y_assign rfl) rfl rfl rfl (gj_nil ?_))
    refine ej_beg (cj_block (cj_seq ?_))
    refine cj_regionG (gj_step (y_move rfl) rfl rfl rfl (gj_step (y_load1 Tryz.isAgg3 rfl rfl) rfl rfl rfl (gj_step (y_gtr rfl rfl) rfl rfl rfl (gj_nil ?_))))
    refine ej_th ?_
    refine cj_cond rfl (fun h11 => ?_) (fun h11 => ?_)
    · have h11b := h11
      try simp only [sxb] at h11
      refine cj_seq (cj_region ?_)
      refine oj_step (y_move rfl) rfl rfl rfl ?_
      refine oj_store rfl rfl rfl rfl Tryz.sizeOf3 rfl ?_
      refine oj_nil ?_
      refine ej_th (cj_ret (ej_blk_ret ?_))
      rw [if_pos (by omega)] at hy
      subst hy
      exact ej_rdr () rfl
    · have h11b := h11
      try simp only [sxb] at h11
      refine cj_skip (ej_blk ?_)
      rw [if_neg (by omega)] at hy
      exact ej_rd () hy
  · rintro Db - hy
    rw [List.drop_of_length_le (Nat.le_refl _)] at hy
    have hy2 : behF n (rgL lad st) = 0 := hy.symm
    refine ej_blk (ej_th (cj_seq (cj_region ?_)))
    refine oj_store rfl rfl rfl rfl Tryz.sizeOf3 rfl ?_
    refine oj_nil ?_
    refine ej_th (cj_ret ?_)
    exact ej_retMc1 rfl Tryz.results51 rfl (y_load1 Tryz.isAgg3 rfl rfl) (fun w' hp => ⟨by rw [hy2], hp.below⟩)
  · rintro Db -
    refine cj_ret (ej_blk_ret (ej_then_ret ?_))
    exact ej_retMc1 rfl Tryz.results51 rfl (y_load1 Tryz.isAgg3 rfl rfl) (fun w' hp => ⟨rfl, hp.below⟩)

end Go.Proofs.YtppfniekcgnmjaaGreat.Au
namespace Go.Proofs.YtppfniekcgnmjaaGreat.Au
open Go.Sx Go.RowKit
set_option maxRecDepth 20000

end Go.Proofs.YtppfniekcgnmjaaGreat.Au
namespace Go.Proofs.YtppfniekcgnmjaaGreat.Au
open Go.Sx Go.RowKit Am
set_option maxRecDepth 20000
end Go.Proofs.YtppfniekcgnmjaaGreat.Au
namespace Go.Sx
open Go.RowKit Go.Proofs Go.Sort Go.Shelf
variable {α : Type} [Inhabited α]
theorem flat_at (enc : α → List Value) (k : Nat) (hk : ∀ x, (enc x).length = k) (hk0 : 0 < k) (xs : List α) (t : Nat) (h : t < xs.length * k) : (xs.flatMap enc)[t]? = some ((flatK enc k xs.toArray)[t]!) := by
  have hq : t / k < xs.length := Nat.div_lt_of_lt_mul (by rw [Nat.mul_comm]; exact h)
  have hm : t % k < k := Nat.mod_lt _ hk0
  have he : t / k * k + t % k = t := by rw [Nat.mul_comm]; exact Nat.div_add_mod t k
  have hx : xs[t / k]? = some (xs[t / k]'hq) := List.getElem?_eq_getElem hq
  have h1 := flatMap_get enc k hk xs (t / k) _ (t % k) hx hm
  rw [he] at h1
  rw [h1, get_flatK enc k xs.toArray t (by simpa using h)]
  have h2 : xs.toArray[t / k]! = xs[t / k]'hq := by simp [getElem!_pos, hq]
  rw [h2, getElem!_pos _ _ (by rw [hk]; exact hm), List.getElem?_eq_getElem (by rw [hk]; exact hm)]
theorem calls_sortK {P : Program} {ρ : Ren} (L : SlLaysF0.n6 P ρ) (k : Nat) (hk0 : 0 < k) (aE : ∀ w, (isAgg (ρ.t 24)).run P w = .ok true w) (zE : ∀ w, (Go.sizeOf (ρ.t 24)).run P w = .ok k w) (enc : α → List Value) (hk : ∀ x, (enc x).length = k) (h1 : ∀ x, ∀ v ∈ enc x, v.oneCell' = true)
    (cf : α → α → Int) (hO : SWO (ltOf cf)) (hT : ∀ x y, (ltOf cf) x y = false → (ltOf cf) y x = false → x = y) (g : Nat) (eg : ∀ args w, (callFunc g args).run P w = .ok (.enter g args) w)
    (hcmp : ∀ (x y : α) (W : World), Calls P g #[.agg (enc x).toArray, .agg (enc y).toArray] W (fun e w' => e = .returned (.int .i64 (cf x y)) ∧ ∃ q os', w' = grow (W.drewN q) os'))
    (e c : Nat) (A : Option Addr) (xs : List α) (w : World) (hl : xs.length < 4611686018427387904) (ho : (ow e k enc A c xs).P w) :
    Calls P (ρ.f 6) #[.slice A xs.length c, .func (.func g) #[] #[]] w (fun en w' => en = .returned (.tuple #[]) ∧ Mut (ow e k enc A c xs) w w' ∧ (ow e k enc A c (xs.mergeSort fun x y => !(ltOf cf) y x)).P w') := by
  have ho' : w.ownsRow 0 e k (.slice A xs.length c) xs.length (xs.flatMap enc) := ho
  rcases ho'.2 with ⟨h2, h3⟩ | ⟨b, cap, cur, hv, _, hb, hn, hm, hs, ht⟩
  · have hx0 : xs = [] := List.eq_nil_of_length_eq_zero h3
    subst hx0
    have hS := AnyF.slices_SortFunc_none (P := P) (ρ := ρ) { L with } A c (.func (.func g) #[] #[]) w
    refine hS.mono fun en w' hh => ?_
    obtain ⟨he, hw⟩ := hh
    rw [hw]
    have e0 : (([] : List α).mergeSort fun x y => !(ltOf cf) y x) = [] := by simp
    rw [e0]
    exact ⟨he, ⟨rfl, rfl, rfl, Nat.le_refl _, fun _ _ _ => rfl⟩, ho⟩
  · injection hv with hA _ hc
    subst hA; subst hc
    have hblk : b < w.heap.size := (Array.getElem?_eq_some_iff.1 hb).1
    have hH : HoldsK enc k w b 0 xs.toArray := by
      intro j hj
      rw [size_flatK] at hj
      have hj' : j < xs.length * k := by simpa using hj
      refine ⟨?_, by simp [World.frozen?, hb]⟩
      have e1 : (cur.toList.take (xs.length * k))[j]? = (xs.flatMap enc)[j]? := by rw [ht]
      rw [List.getElem?_take, if_pos hj', Array.getElem?_toList, flat_at enc k hk hk0 xs j hj'] at e1
      simp only [World.cell?, hb, Nat.zero_add]
      simp only [Option.isSome_none, Bool.false_eq_true, if_false]
      exact e1
    have hS := AnyQ.slices_SortFunc_total L k aE zE enc hk h1 cf hO g #[] b 0 c xs.toArray w eg (fun _ _ _ _ x y => hcmp x y _) hH hblk (by simpa using hl) hT
    rw [show xs.toArray.size = xs.length by simp] at hS
    refine hS.mono fun en w' hh => ?_
    obtain ⟨he, q, os, hw⟩ := hh
    refine ⟨he, ?_⟩
    obtain ⟨ys, hys⟩ : ∃ ys, ys = xs.mergeSort fun x y => !(ltOf cf) y x := ⟨_, rfl⟩
    have hyl : ys.length = xs.length := by rw [hys]; exact List.length_mergeSort ..
    have hw2 : w' = grow (putRowK enc k (Sort.ahead w q) b 0 ys.toArray) os := by rw [hw, hys]; rfl
    have hsz : (putRowK enc k (Sort.ahead w q) b 0 ys.toArray).heap.size = w.heap.size := by simp [putRowK, putRow, mapBlock, Sort.ahead]
    rw [← hys, hw2]
    constructor
    · refine ⟨rfl, rfl, rfl, by rw [size_grow, hsz]; omega, fun j hj hne => ?_⟩
      rw [heap_grow_old _ _ (by rw [hsz]; exact hj)]
      have hbk : b ≠ j := fun h => hne (by rw [← h]; rfl)
      simp [putRowK, putRow, mapBlock, Sort.ahead, Array.getElem?_modify, hbk]
    · refine (ow e k enc (some ⟨b, 0, none⟩) c ys).stab (w := putRowK enc k (Sort.ahead w q) b 0 ys.toArray) (fun j hj => ?_) ?_
      · have hbk : b = j := by
          have : (Value.slice (some ⟨b, 0, none⟩) ys.length c).ownBlock = some j := hj
          injection this
        rw [heap_grow_old _ _ (by rw [hsz]; omega)]
      · show World.ownsRow _ 0 e k (.slice (some ⟨b, 0, none⟩) ys.length c) ys.length (ys.flatMap enc)
        refine ⟨by rw [flatMap_len enc k hk], .inr ⟨b, c, putCells id 0 (flatK enc k ys.toArray) cur, rfl, Nat.zero_le _, ?_, by omega, hm, by simpa [putCells] using hs, ?_⟩⟩
        · simp [putRowK, putRow, mapBlock, Sort.ahead, Array.getElem?_modify, hb, onCells]
        · apply List.ext_getElem?
          intro j
          by_cases hj : j < ys.length * k
          · rw [List.getElem?_take, if_pos hj, flat_at enc k hk hk0 ys j hj, Array.getElem?_toList]
            have hjc : j < cur.size := by
              have := Nat.mul_le_mul_right k (show ys.length ≤ c by omega)
              omega
            simp only [putCells, Array.getElem?_mapIdx, Array.getElem?_eq_getElem hjc, Option.map_some]
            rw [if_pos ⟨Nat.zero_le _, by rw [size_flatK]; simpa using hj⟩]
            simp
          · rw [List.getElem?_take, if_neg hj, List.getElem?_eq_none (by rw [flatMap_len enc k hk]; omega)]
end Go.Sx
namespace Go.Proofs.YtppfniekcgnmjaaGreat.Au
open Go.Sx Go.RowKit Am Go.Sort Go.Shelf
set_option maxRecDepth 20000
theorem wa0 (W : World) (a b : Obj) : (W.alloc a).alloc b = grow (W.drewN 0) (#[a] ++ #[b]) := by rw [alloc_eq_grow, alloc_eq_grow, grow_grow]; rfl
theorem wa1 (W : World) (a b : Obj) (q : Nat) (os : Array Obj) : grow (((W.alloc a).alloc b).drewN q) os = grow (W.drewN q) ((#[a] ++ #[b]) ++ os) := by
  rw [alloc_eq_grow, alloc_eq_grow, grow_grow]
  show grow (grow (W.drewN q) (#[a] ++ #[b])) os = _
  rw [grow_grow]
set_option maxHeartbeats 1000000 in
theorem k_beatsG (a b : BidV) (W : World) : Calls Tryz.prog 82 #[.agg (encBi a).toArray, .agg (encBi b).toArray] W (fun e w' => e = .returned (.bool (beats a b)) ∧ ∃ q os', w' = grow (W.drewN q) os') := by
  obtain ⟨a0, a1, a2⟩ := a
  obtain ⟨b0, b1, b2⟩ := b
  show Calls Tryz.prog 82 #[.agg #[.int .i64 a0, .int .i64 a1, .int .i64 a2], .agg #[.int .i64 b0, .int .i64 b1, .int .i64 b2]] W _
  go_enter Tryz.func82, Tryz.ntmps82
  go_wp2
  · go_ret
    rename_i h
    refine ⟨?_, 0, _, by rw [alloc_eq_grow, alloc_eq_grow, grow_grow]; rfl⟩
    have h2 : a2 ≠ b2 := by simpa using h
    unfold beats; rw [if_neg h2]; rfl
  · go_ret
    rename_i h
    refine ⟨?_, 0, _, by rw [alloc_eq_grow, alloc_eq_grow, grow_grow]; rfl⟩
    have h2 : a2 = b2 := by
      have : (a2 != b2) = false := by assumption
      simpa using this
    have h3 : a1 ≠ b1 := by simpa using h
    unfold beats; rw [if_pos h2, if_neg h3]; rfl
  · go_ret
    rename_i h1 h
    refine ⟨?_, 0, _, by rw [alloc_eq_grow, alloc_eq_grow, grow_grow]; rfl⟩
    have h2 : a2 = b2 := by simpa using h1
    have h3 : a1 = b1 := by simpa using h
    unfold beats; rw [if_pos h2, if_pos h3]; rfl
def cmpO (a b : BidV) : Int := if a = b then 0 else if beats a b then -1 else 1
theorem eq93' (a0 a1 a2 b0 b1 b2 : Int) (x y : Operand) (w : World) : (do eqGuard .eql 115 x y (.agg #[.int .i64 a0, .int .i64 a1, .int .i64 a2]) (.agg #[.int .i64 b0, .int .i64 b1, .int .i64 b2]); binOp .eql 115 (.agg #[.int .i64 a0, .int .i64 a1, .int .i64 a2]) (.agg #[.int .i64 b0, .int .i64 b1, .int .i64 b2]) : Sem Value).run Tryz.prog w = .ok (.bool ((a0 == b0) && (a1 == b1) && (a2 == b2))) w := by
  simp [go_sem, Tryz.eqGuardType115, Tryz.stoodInHeld115, Tryz.stoodInHeld67, Tryz.underlying115, Tryz.underlying67, Tryz.underlying3]
  try ((repeat' split) <;> simp_all)
theorem wl_eqO {ops : Array Oper} {rest : List Oper} {Q : Exit → Act → World → Prop} {a : Act} {w : World} {dst : Option Tmp} {ty ty' : TypeId} {pos : String} {aft : Array Edge} {x y : Operand} {a0 a1 a2 b0 b1 b2 : Int}
    (hx : a.eval x = .agg #[.int .i64 a0, .int .i64 a1, .int .i64 a2]) (hy : a.eval y = .agg #[.int .i64 b0, .int .i64 b1, .int .i64 b2])
    (k : wpList Tryz.prog ops Q rest (a.put dst (.bool ((a0 == b0) && (a1 == b1) && (a2 == b2)))) w) : wpList Tryz.prog ops Q (⟨dst, .binOp .eql 115 x y ty', ty, pos, aft, none⟩ :: rest) a w := by
  refine wpList_plain rfl fun K' hK' => ?_
  have h := eq93' a0 a1 a2 b0 b1 b2 x y w
  have hrun : (execOp a.eval ⟨dst, .binOp .eql 115 x y ty', ty, pos, aft, none⟩).run Tryz.prog w = .ok (.value (.bool ((a0 == b0) && (a1 == b1) && (a2 == b2)))) w := by
    simp only [execOp, hx, hy]
    rw [Sem.run_bind, h]; rfl
  unfold Oper.wp
  rw [hrun]
  exact hK' _ _ k
set_option maxHeartbeats 1000000 in
theorem k_cmpO1 (a0 a1 a2 b0 b1 b2 : Int) (r : Bool) (W : World) (hcon : ∀ W, Calls Tryz.prog 82 #[.agg #[.int .i64 a0, .int .i64 a1, .int .i64 a2], .agg #[.int .i64 b0, .int .i64 b1, .int .i64 b2]] W (fun e w' => e = .returned (.bool r) ∧ ∃ q os', w' = grow (W.drewN q) os')) :
    Calls Tryz.prog 84 #[.agg #[.int .i64 a0, .int .i64 a1, .int .i64 a2], .agg #[.int .i64 b0, .int .i64 b1, .int .i64 b2]] W (fun e w' => e = .returned (.int .i64 (if (a0 == b0 && a1 == b1 && a2 == b2) = true then 0 else if r = true then -1 else 1)) ∧ ∃ q os', w' = grow (W.drewN q) os') := by
  go_enter Tryz.func84, Tryz.ntmps84
  generalize hb : ((a0 == b0) && (a1 == b1) && (a2 == b2)) = eb
  go_wp2_with (first | (refine wl_eqO rfl rfl ?_; rw [hb]) | (go_at_call 82; refine (hcon _).mono ?_; rintro e w' ⟨rfl, q, os, rfl⟩))
  all_goals (go_ret; first | exact ⟨rfl, 0, _, wa0 _ _ _⟩ | exact ⟨rfl, _, _, wa1 _ _ _ _ _⟩)
theorem k_cmpO (a b : BidV) (W : World) : Calls Tryz.prog 84 #[.agg (encBi a).toArray, .agg (encBi b).toArray] W (fun e w' => e = .returned (.int .i64 (cmpO a b)) ∧ ∃ q os', w' = grow (W.drewN q) os') := by
  have hcon := fun W' => k_beatsG a b W'
  have hv : cmpO a b = if (a.who == b.who && a.way == b.way && a.most == b.most) = true then 0 else if beats a b = true then -1 else 1 := by
    unfold cmpO
    by_cases h : a = b
    · subst h; simp
    · have hne : ¬ (a.who == b.who && a.way == b.way && a.most == b.most) = true := by
        simp only [Bool.and_eq_true, beq_iff_eq]
        rintro ⟨⟨h1, h2⟩, h3⟩
        exact h (bid_ext h1 h2 h3)
      rw [if_neg h, if_neg hne]
  rw [hv]
  exact k_cmpO1 a.who a.way a.most b.who b.way b.most (beats a b) W hcon
theorem ltO (a b : BidV) : ltOf cmpO a b = beats a b := by
  unfold ltOf cmpO
  by_cases h : a = b
  · subst h
    rw [if_pos rfl]
    cases hb : beats a a with
    | false => rfl
    | true => rw [beats_iff] at hb; omega
  · rw [if_neg h]
    cases hb : beats a b <;> rfl
theorem swoO : SWO (ltOf cmpO) where
  irrefl x := by rw [ltO, beats_no]; omega
  trans x y z h1 h2 := by rw [ltO, beats_iff] at *; omega
  ntrans x y z h1 h2 := by rw [ltO, beats_no] at *; omega
theorem totO (x y : BidV) (h1 : ltOf cmpO x y = false) (h2 : ltOf cmpO y x = false) : x = y := by
  rw [ltO, beats_no] at *
  exact bid_ext (by omega) (by omega) (by omega)
end Go.Proofs.YtppfniekcgnmjaaGreat.Au
namespace Go.Proofs.YtppfniekcgnmjaaGreat.Au
open Go.Sx Go.RowKit Am

abbrev evB (b : BidV) : Value := .agg #[.int .i64 b.who, .int .i64 b.way, .int .i64 b.most]
def firstNo {α : Type} (p : α → Bool) : List α → Int → Int
  | [], _ => -1
  | x :: l, i => if p x = true then firstNo p l (i + 1) else i
theorem firstNo_drop {α : Type} (p : α → Bool) (l : List α) (k : Nat) (x : α) (h : l[k]? = some x) : firstNo p (l.drop k) k = if p x = true then firstNo p (l.drop (k + 1)) ((k + 1 : Nat) : Int) else (k : Int) := by
  obtain ⟨h1, h2⟩ := List.getElem?_eq_some_iff.1 h
  rw [List.drop_eq_getElem_cons h1, h2, firstNo]; rfl
theorem firstNo_ge {α : Type} (p : α → Bool) : ∀ (l : List α) (i : Int), 0 ≤ i → decide (0 ≤ firstNo p l i) = !(l.all p)
  | [], i, _ => by simp [firstNo]
  | x :: l, i, h => by
    rw [firstNo, List.all_cons]
    cases hp : p x with
    | true => rw [if_pos rfl, firstNo_ge p l (i + 1) (by omega), Bool.true_and]
    | false => rw [if_neg (by simp)]; simp [h]
theorem firstNo_all {α : Type} (p : α → Bool) (l : List α) : decide (0 ≤ firstNo p l 0) = !(l.all p) := firstNo_ge p l 0 (Int.le_refl _)
def bid1 (b : BidV) : Bool := btw 0 b.who 99 && btw 0 b.way 3 && btw 1 b.most 100000
def bidsB (bs : List BidV) : Bool := decide ((bs.length : Int) ≤ 32) && bs.all bid1
theorem bid1_V (b : BidV) : (((!(decide (0 ≤ b.who) && decide (b.who ≤ 99))) || !(decide (0 ≤ b.way) && decide (b.way ≤ 3))) || !(decide (1 ≤ b.most) && decide (b.most ≤ 100000))) = !(bid1 b) := by
  unfold bid1 btw
  rw [← Bool.not_and, ← Bool.not_and]
theorem bids_ok {bs : List BidV} (h : bidsB bs = true) : bs.length ≤ 32 ∧ ∀ b ∈ bs, (0 ≤ b.who ∧ b.who ≤ 99) ∧ (0 ≤ b.way ∧ b.way ≤ 3) ∧ (1 ≤ b.most ∧ b.most ≤ 100000) := by
  unfold bidsB at h
  rw [Bool.and_eq_true, decide_eq_true_eq] at h
  refine ⟨by omega, fun b hb => ?_⟩
  have := List.all_eq_true.1 h.2 b hb
  unfold bid1 at this
  simp only [Bool.and_eq_true, btw_t] at this
  exact ⟨this.1.1, this.1.2, this.2⟩
/-- sorted, the one that beats all others first -/
def srt (l : List BidV) : List BidV := l.mergeSort fun x y => !(ltOf cmpO) y x
theorem srt_perm (l : List BidV) : (srt l).Perm l := List.mergeSort_perm ..
theorem srt_pw (l : List BidV) : (srt l).Pairwise (fun a b => beats b a = false) := by
  have := List.pairwise_mergeSort (le := fun x y : BidV => !(ltOf cmpO) y x) (fun a b c h1 h2 => by simp only [ltO, Bool.not_eq_true', beats_no] at *; omega) (fun a b => by
    simp only [ltO, Bool.or_eq_true, Bool.not_eq_true', beats_no]; omega) l
  exact this.imp (fun h => by simpa [ltO] using h)
theorem srt_eq {l m : List BidV} (h : l.Perm m) : srt l = srt m :=
  List.Perm.eq_of_pairwise (fun a b _ _ h1 h2 => by rw [beats_no] at h1 h2; exact bid_ext (by omega) (by omega) (by omega)) (srt_pw l) (srt_pw m) ((srt_perm l).trans (h.trans (srt_perm m).symm))
def offL (rs : List Int) (bs : List BidV) : List BidV := srt ((ownF rs bs []).map (·.2))
theorem offL_len (rs : List Int) (bs : List BidV) : (offL rs bs).length ≤ bs.length := by
  have key : ∀ (l : List BidV) (m : List (Int × BidV)), (ownF rs l m).length ≤ m.length + l.length := by
    intro l
    induction l with
    | nil => intro m; exact Nat.le_refl _
    | cons b l ih =>
      intro m
      rw [ownF]
      have h1 := ih (if 0 < (offer1 rs b).most then ownS m (offer1 rs b) else m)
      have h2 : (if 0 < (offer1 rs b).most then ownS m (offer1 rs b) else m).length ≤ m.length + 1 := by
        have hp : ∀ (m : List (Int × BidV)) (k : Int) (v : BidV), (putL m k v).length ≤ m.length + 1 := by
          intro m k v
          have := congrArg List.length (putL_keys m k v)
          rw [List.length_map] at this
          rw [this]; split <;> simp
        split
        · unfold ownS
          by_cases hc : ownC m (offer1 rs b) = true
          · rw [if_pos hc]; exact hp _ _ _
          · rw [if_neg hc]; omega
        · omega
      rw [List.length_cons]; omega
  unfold offL
  rw [(srt_perm _).length_eq, List.length_map]
  have := key bs []
  simpa using this
theorem sell_off (rs : List Int) (st least : Int) (bs : List BidV) : sellP rs st least (offL rs bs) = knockF rs st least (offs rs bs) :=
  sell_eq (ownF_own rs bs) (srt_perm _) (srt_pw _) (fun _ h => offs_pos h)
/-- what the map's step asks -/
theorem own_V (own : List (Int × BidV)) (o : BidV) : (decide (0 < o.most) && ((!(getL own o.who).isSome) || beats o ((getL own o.who).getD default))) = true ↔ (0 < o.most ∧ ownC own o = true) := by
  rw [Bool.and_eq_true, decide_eq_true_eq]
  unfold ownC
  cases getL own o.who with
  | none => simp
  | some v => simp
theorem own_yes {own : List (Int × BidV)} {o : BidV} (h : (decide (0 < o.most) && ((!(getL own o.who).isSome) || beats o ((getL own o.who).getD default))) = true) : (if 0 < o.most then ownS own o else own) = putL own o.who o := by
  obtain ⟨h1, h2⟩ := (own_V own o).1 h
  rw [if_pos h1, ownS, if_pos h2]
theorem own_no {own : List (Int × BidV)} {o : BidV} (h : (decide (0 < o.most) && ((!(getL own o.who).isSome) || beats o ((getL own o.who).getD default))) = false) : (if 0 < o.most then ownS own o else own) = own := by
  by_cases h1 : 0 < o.most
  · rw [if_pos h1, ownS, if_neg]
    intro h2
    rw [(own_V own o).2 ⟨h1, h2⟩] at h; cases h
  · rw [if_neg h1]
theorem erase_perm : ∀ (left : List (Int × BidV)) (i : Nat) (p : Int × BidV), left[i]? = some p → ∀ outs : List BidV, ((outs ++ [p.2]) ++ (left.eraseIdx i).map (·.2)).Perm (outs ++ left.map (·.2)) := by
  intro left i p h outs
  have h1 : (p :: left.eraseIdx i).Perm left := by
    induction left generalizing i with
    | nil => simp at h
    | cons x l ih =>
      cases i with
      | zero => simp at h; subst h; exact .refl _
      | succ i =>
        simp at h
        exact (List.Perm.swap x p _).trans ((ih i h).cons x)
  rw [List.append_assoc]
  exact (h1.map (·.2)).append_left outs
theorem encBi_one (x : BidV) : ∀ v ∈ encBi x, v.oneCell' = true := fun v hv => by simp at hv; rcases hv with rfl | rfl | rfl <;> rfl
def SellV (st rv : Int) (lad : List RiseV) (bs : List BidV) : KnockV := if lotB st rv lad = true ∧ bidsB bs = true then knockF (rgL lad st) st (leastR st rv lad) (offs (rgL lad st) bs) else ⟨0, 0⟩
def SellE (st rv : Int) (lad : List RiseV) (bs : List BidV) : Int := if lotB st rv lad = true then (if bidsB bs = true then 0 else 61) else 60
theorem sell_no {st rv : Int} {lad : List RiseV} {bs : List BidV} (h : lotB st rv lad = false) : SellV st rv lad bs = ⟨0, 0⟩ ∧ SellE st rv lad bs = 60 := by unfold SellV SellE; rw [h]; simp
theorem sell_no2 {st rv : Int} {lad : List RiseV} {bs : List BidV} (h : lotB st rv lad = true) (h2 : bidsB bs = false) : SellV st rv lad bs = ⟨0, 0⟩ ∧ SellE st rv lad bs = 61 := by unfold SellV SellE; rw [h, h2]; simp
theorem sell_yes {st rv : Int} {lad : List RiseV} {bs : List BidV} (h : lotB st rv lad = true) (h2 : bidsB bs = true) : SellV st rv lad bs = sellP (rgL lad st) st (leastR st rv lad) (offL (rgL lad st) bs) ∧ SellE st rv lad bs = 0 := by unfold SellV SellE; rw [h, h2, sell_off]; simp
theorem sellP_no {rs : List Int} {st least : Int} {s : List BidV} (h : ((((s.length : Int) == 0) || (least == 0)) || decide ((s.getD (0 : Int).toNat default).most < least)) = true) : sellP rs st least s = ⟨-1, 0⟩ := by
  cases s with
  | nil => rfl
  | cons o t =>
    have h1 : (((o :: t).length : Int) == 0) = false := beq_eq_false_iff_ne.2 (by simp; omega)
    rw [h1] at h
    have h2 : least = 0 ∨ o.most < least := by simpa using h
    rw [sellP, if_pos h2]
theorem sellP_yes {rs : List Int} {st least : Int} {s : List BidV} (h : ((((s.length : Int) == 0) || (least == 0)) || decide ((s.getD (0 : Int).toNat default).most < least)) = false) : ∃ o t, s = o :: t ∧ sellP rs st least s = ⟨o.who, max least (priceF rs st o.most (secT t))⟩ := by
  cases s with
  | nil => simp at h
  | cons o t =>
    have h2 : ¬ (least = 0 ∨ o.most < least) := by
      simp only [Bool.or_eq_false_iff, beq_eq_false_iff_ne, decide_eq_false_iff_not] at h
      rintro (e | e)
      · exact h.1.2 e
      · exact h.2 e
    exact ⟨o, t, rfl, by rw [sellP, if_neg h2]⟩
end Go.Proofs.YtppfniekcgnmjaaGreat.Au
namespace Go.Proofs.YtppfniekcgnmjaaGreat.Au
open Go.Sx Go.RowKit
set_option maxRecDepth 20000
theorem el110 : ElemIs Tryz.prog 110 115 3 24 := ⟨⟨_, (.agg #[.int .i64 0, .int .i64 0, .int .i64 0]), Tryz.underlying110, Tryz.type115, by kernel_rfl, by kernel_rfl, by kernel_rfl, by kernel_rfl, by decide⟩⟩
theorem fa115_0 : FieldIs Tryz.prog 115 0 0 3 true := ⟨⟨_, _, Tryz.underlying115, rfl, rfl, Tryz.sizeOf67, Tryz.isAgg67, by decide⟩⟩
theorem fa67_0 : FieldIs Tryz.prog 67 0 0 1 false := ⟨⟨_, _, Tryz.underlying67, rfl, rfl, Tryz.sizeOf3, Tryz.isAgg3, by decide⟩⟩
theorem fa67_1 : FieldIs Tryz.prog 67 1 1 1 false := ⟨⟨_, _, Tryz.underlying67, rfl, rfl, Tryz.sizeOf3, Tryz.isAgg3, by decide⟩⟩
theorem fa67_2 : FieldIs Tryz.prog 67 2 2 1 false := ⟨⟨_, _, Tryz.underlying67, rfl, rfl, Tryz.sizeOf3, Tryz.isAgg3, by decide⟩⟩
theorem st115 : StructIs Tryz.prog 115 [(0, 3)] [.int .i64 0, .int .i64 0, .int .i64 0] := ⟨⟨_, Tryz.underlying115, fun w => by simp [Tryz.sizeOf67], Tryz.zeroValue115⟩⟩
end Go.Proofs.YtppfniekcgnmjaaGreat.Au
namespace Go.Proofs.YtppfniekcgnmjaaGreat.Au
open Go.Sx Go.RowKit Am
set_option maxRecDepth 20000
theorem k_clB (b : BidV) (w : World)  : Calls Tryz.prog 80 #[evB b] w (fun e w' => e = .returned (.bool (!(bid1 b))) ∧ Grow w w') := by
  refine enter_pure (args := [evB b]) [] Tryz.func80 rfl (by rw [Tryz.ntmps80]; simp) (by simp) ?_
  refine cj_seq (cj_region ?_)
  refine oj_box rfl rfl rfl (fun b1 => ?_)
  refine oj_step (y_assign rfl) rfl rfl rfl ?_
  refine oj_nil ?_
  refine ej_th (cj_seq ?_)
  refine cj_regionG ?_
  refine gj_step (y_fa0 fa67_0 rfl) rfl rfl rfl (gj_step (y_load1 Tryz.isAgg3 rfl rfl) rfl rfl rfl (?_))
  refine gj_step (y_call Tryz.call78 rfl (fun w hp => k_within _ _ _ w)) rfl rfl rfl ?_
  refine gj_step (y_not rfl) rfl rfl rfl (gj_step (y_move rfl) rfl rfl rfl (?_))
  refine gj_g 4 7 11 rfl rfl rfl rfl (fun hg7 => gj_yes rfl rfl rfl (y_fa fa67_1 rfl) rfl rfl (gj_yes rfl rfl rfl (y_load1 Tryz.isAgg3 rfl rfl) rfl rfl (gj_yes rfl rfl rfl (y_call Tryz.call78 rfl (fun w hp => k_within _ _ _ w)) rfl rfl (gj_yes rfl rfl rfl (y_not rfl) rfl rfl (gj_nil rfl))))) ?_
  refine gj_step (y_or rfl rfl rfl) rfl rfl rfl (gj_step (y_move rfl) rfl rfl rfl (?_))
  refine gj_g 4 13 17 rfl rfl rfl rfl (fun hg13 => gj_yes rfl rfl rfl (y_fa fa67_2 rfl) rfl rfl (gj_yes rfl rfl rfl (y_load1 Tryz.isAgg3 rfl rfl) rfl rfl (gj_yes rfl rfl rfl (y_call Tryz.call78 rfl (fun w hp => k_within _ _ _ w)) rfl rfl (gj_yes rfl rfl rfl (y_not rfl) rfl rfl (gj_nil rfl))))) ?_
  refine gj_step (y_or rfl rfl rfl) rfl rfl rfl (gj_step (y_assign rfl) rfl rfl rfl (?_))
  refine gj_nil ?_
  refine ej_th (cj_ret ?_)
  refine ej_ret1 rfl Tryz.results80 rfl (fun w' hp => ⟨?_, hp.below⟩)
  rw [← bid1_V b]

theorem k_IndexB (l : List BidV) (A : Option Addr) (c : Nat) (w : World) (hl : Rd w 3 encBi A l) : Calls Tryz.prog 102 #[.slice A l.length c, .func (.func 80) #[] #[]] w (fun e w' => e = .returned (.int .i64 (firstNo bid1 l 0)) ∧ Grow w w') := by
  have hlen := hl.len
  refine enter_pure (args := [.slice A l.length c, .func (.func 80) #[] #[]]) [sl (fun b => b < w.heap.size) 3 encBi A l] Tryz.func102 rfl (by rw [Tryz.ntmps102]; simp) (fun g hg => by simp at hg; subst hg; exact ⟨hl, fun _ h => h⟩) ?_
  refine cj_seq ?_
  refine cj_regionG (gj_step (y_assign rfl) rfl rfl rfl (gj_nil ?_))
  refine ej_th (cj_seq (cj_seq ?_))
  refine cj_regionG (gj_step (y_move rfl) rfl rfl rfl (gj_step (y_lenA Tryz.underlying63 rfl) rfl rfl rfl (gj_step (y_move rfl) rfl rfl rfl (gj_nil ?_))))
  refine ej_th (cj_block ?_)
  refine cj_lpic (X := Nat) [(0, _), (1, _), (7, _)] (fun k => k ≤ l.length ∧ firstNo bid1 (l.drop k) k = firstNo bid1 l 0) (fun k => [(8, .int .i64 k)]) (fun k => l.length - k) 0 (⟨Nat.zero_le _, rfl⟩) ⟨rfl, rfl, rfl, rfl, trivial⟩ ?_
  rintro k ⟨hk, hsk⟩
  dsimp only [List.cons_append, List.nil_append]
  refine cj_seq ?_
  refine cj_regionG (gj_step (y_lss rfl rfl) rfl rfl rfl (gj_nil ?_))
  refine ej_th (cj_seq ?_)
  refine cj_cond rfl (fun h9 => ?_) (fun h9 => ?_)
  · have h9b := h9
    try simp only [sxb] at h9
    obtain ⟨x, hx⟩ : ∃ x, l[k]? = some x := ⟨_, List.getElem?_eq_getElem (by omega)⟩
    rw [firstNo_drop bid1 l k x hx] at hsk
    refine cj_skip (ej_th (cj_seq (cj_block (cj_seq ?_))))
    refine cj_regionG (gj_step (y_move rfl) rfl rfl rfl (gj_step (y_assign rfl) rfl rfl rfl (gj_nil ?_)))
    refine ej_th (cj_seq ?_)
    refine cj_regionG ?_
    refine gj_step (y_move rfl) rfl rfl rfl (gj_step (y_move rfl) rfl rfl rfl (gj_step (y_move rfl) rfl rfl rfl (gj_step (y_ixR (reads_sl) Tryz.underlying63 Tryz.sizeOf67 rfl rfl (⟨by omega, by omega⟩)) rfl rfl rfl (gj_step (y_ldW (reads_sl) Tryz.isAgg67 Tryz.sizeOf67 rfl (hx) (fun _ => rfl)) rfl rfl rfl (?_)))))
    refine gj_step (y_callV Tryz.call80 rfl rfl (fun w hp => k_clB x w)) rfl rfl rfl ?_
    refine gj_nil ?_
    refine ej_th ?_
    refine cj_cond rfl (fun h16 => ?_) (fun h16 => ?_)
    · have h16b := h16
      try simp only [sxb] at h16
      refine cj_seq ?_
      refine cj_regionG (gj_step (y_move rfl) rfl rfl rfl (gj_step (y_assign rfl) rfl rfl rfl (gj_nil ?_)))
      refine ej_th (cj_ret (ej_blk_ret (ej_then_ret (ej_then_ret (ej_blk_ret (ej_then_ret ?_))))))
      refine ej_ret1 rfl Tryz.results102 rfl (fun w' hp => ⟨?_, hp.below⟩)
      rw [← hsk, if_neg (by rw [not_t h16b]; simp)]
    · have h16b := h16
      try simp only [sxb] at h16
      refine cj_skip (ej_blk (ej_th ?_))
      refine cj_regionG (gj_step (y_add rfl rfl (by omega)) rfl rfl rfl (gj_step (y_move rfl) rfl rfl rfl (gj_nil ?_)))
      exact ej_nx (k + 1) (by omega) ⟨by omega, by rw [← hsk, if_pos (not_f h16b)]⟩ ⟨rfl, rfl, rfl, rfl, trivial⟩
  · have h9b := h9
    try simp only [sxb] at h9
    refine cj_exit (ej_then_exit (ej_then_exit (ej_blk_hit (ej_th (cj_seq ?_)))))
    refine cj_regionG (gj_step (y_assign rfl) rfl rfl rfl (gj_nil ?_))
    refine ej_th (cj_ret ?_)
    refine ej_ret1 rfl Tryz.results102 rfl (fun w' hp => ⟨?_, hp.below⟩)
    rw [← hsk, List.drop_of_length_le (by omega)]; rfl

theorem k_ContB (l : List BidV) (A : Option Addr) (c : Nat) (w : World) (hl : Rd w 3 encBi A l) : Calls Tryz.prog 79 #[.slice A l.length c, .func (.func 80) #[] #[]] w (fun e w' => e = .returned (.bool (!(l.all bid1))) ∧ Grow w w') := by
  refine enter_pure (args := [.slice A l.length c, .func (.func 80) #[] #[]]) [sl (fun b => b < w.heap.size) 3 encBi A l] Tryz.func79 rfl (by rw [Tryz.ntmps79]; simp) (fun g hg => by simp at hg; subst hg; exact ⟨hl, fun _ h => h⟩) ?_
  refine cj_seq ?_
  refine cj_regionG (gj_step (y_assign rfl) rfl rfl rfl (gj_nil ?_))
  refine ej_th (cj_seq ?_)
  refine cj_regionG ?_
  refine gj_step (y_move rfl) rfl rfl rfl (gj_step (y_move rfl) rfl rfl rfl (?_))
  refine gj_step (y_call Tryz.call102 rfl (fun w hp => k_IndexB l A c w hp.rd)) rfl rfl rfl ?_
  refine gj_step (y_geq rfl rfl) rfl rfl rfl (gj_step (y_assign rfl) rfl rfl rfl (?_))
  refine gj_nil ?_
  refine ej_th (cj_ret ?_)
  refine ej_ret1 rfl Tryz.results79 rfl (fun w' hp => ⟨?_, hp.below⟩)
  rw [firstNo_all bid1 l]

theorem k_bids (bs : List BidV) (Ab : Option Addr) (cb : Nat) (w : World) (hbs : Rd w 3 encBi Ab bs) : Calls Tryz.prog 49 #[.slice Ab bs.length cb] w (fun e w' => e = .returned (.bool (bidsB bs)) ∧ Grow w w') := by
  refine enter_pure (args := [.slice Ab bs.length cb]) [sl (fun b => b < w.heap.size) 3 encBi Ab bs] Tryz.func49 rfl (by rw [Tryz.ntmps49]; simp) (fun g hg => by simp at hg; subst hg; exact ⟨hbs, fun _ h => h⟩) ?_
  refine cj_seq ?_
  refine cj_regionG (gj_step (y_assign rfl) rfl rfl rfl (gj_nil ?_))
  refine ej_th (cj_seq ?_)
  refine cj_regionG ?_
  refine gj_step (y_move rfl) rfl rfl rfl (gj_step (y_lenA Tryz.underlying63 rfl) rfl rfl rfl (gj_step (y_leq rfl rfl) rfl rfl rfl (gj_step (y_move rfl) rfl rfl rfl (?_))))
  refine gj_g 3 6 9 rfl rfl rfl rfl (fun hg6 => gj_yes rfl rfl rfl (y_move rfl) rfl rfl (gj_yes rfl rfl rfl (y_call Tryz.call79 rfl (fun w hp => k_ContB bs Ab cb w hp.rd)) rfl rfl (gj_yes rfl rfl rfl (y_not rfl) rfl rfl (gj_nil rfl)))) ?_
  refine gj_step (y_and rfl rfl rfl) rfl rfl rfl (gj_step (y_assign rfl) rfl rfl rfl (?_))
  refine gj_nil ?_
  refine ej_th (cj_ret ?_)
  refine ej_ret1 rfl Tryz.results49 rfl (fun w' hp => ⟨?_, hp.below⟩)
  rw [Bool.not_not]; rfl

theorem k_beats (a b : BidV) (w : World)  : Calls Tryz.prog 82 #[evB a, evB b] w (fun e w' => e = .returned (.bool (beats a b)) ∧ Grow w w') := by
  refine enter_pure (args := [evB a, evB b]) [] Tryz.func82 rfl (by rw [Tryz.ntmps82]; simp) (by simp) ?_
  refine cj_seq (cj_region ?_)
  refine oj_box rfl rfl rfl (fun b2 => ?_)
  refine oj_box rfl rfl rfl (fun b3 => ?_)
  refine oj_step (y_assign rfl) rfl rfl rfl ?_
  refine oj_nil ?_
  refine ej_th (cj_seq (cj_seq ?_))
  refine cj_regionG (gj_step (y_fa0 fa115_0 rfl) rfl rfl rfl (gj_step (y_fa fa67_2 rfl) rfl rfl rfl (gj_step (y_load1 Tryz.isAgg3 rfl rfl) rfl rfl rfl (gj_step (y_fa0 fa115_0 rfl) rfl rfl rfl (gj_step (y_fa fa67_2 rfl) rfl rfl rfl (gj_step (y_load1 Tryz.isAgg3 rfl rfl) rfl rfl rfl (gj_step (y_neq rfl rfl) rfl rfl rfl (gj_nil ?_))))))))
  refine ej_th ?_
  refine cj_cond rfl (fun h11 => ?_) (fun h11 => ?_)
  · have h11b := h11
    try simp only [sxb] at h11
    refine cj_seq ?_
    refine cj_regionG (gj_step (y_fa0 fa115_0 rfl) rfl rfl rfl (gj_step (y_fa fa67_2 rfl) rfl rfl rfl (gj_step (y_load1 Tryz.isAgg3 rfl rfl) rfl rfl rfl (gj_step (y_fa0 fa115_0 rfl) rfl rfl rfl (gj_step (y_fa fa67_2 rfl) rfl rfl rfl (gj_step (y_load1 Tryz.isAgg3 rfl rfl) rfl rfl rfl (gj_step (y_gtr rfl rfl) rfl rfl rfl (gj_step (y_assign rfl) rfl rfl rfl (gj_nil ?_)))))))))
    refine ej_th (cj_ret (ej_then_ret ?_))
    refine ej_ret1 rfl Tryz.results82 rfl (fun w' hp => ⟨?_, hp.below⟩)
    unfold beats; rw [if_neg (by simpa using h11b)]
  · have h11b := h11
    try simp only [sxb] at h11
    refine cj_skip (ej_th (cj_seq (cj_seq ?_)))
    refine cj_regionG (gj_step (y_fa0 fa115_0 rfl) rfl rfl rfl (gj_step (y_fa fa67_1 rfl) rfl rfl rfl (gj_step (y_load1 Tryz.isAgg3 rfl rfl) rfl rfl rfl (gj_step (y_fa0 fa115_0 rfl) rfl rfl rfl (gj_step (y_fa fa67_1 rfl) rfl rfl rfl (gj_step (y_load1 Tryz.isAgg3 rfl rfl) rfl rfl rfl (gj_step (y_neq rfl rfl) rfl rfl rfl (gj_nil ?_))))))))
    refine ej_th ?_
    refine cj_cond rfl (fun h25 => ?_) (fun h25 => ?_)
    · have h25b := h25
      try simp only [sxb] at h25
      refine cj_seq ?_
      refine cj_regionG (gj_step (y_fa0 fa115_0 rfl) rfl rfl rfl (gj_step (y_fa fa67_1 rfl) rfl rfl rfl (gj_step (y_load1 Tryz.isAgg3 rfl rfl) rfl rfl rfl (gj_step (y_fa0 fa115_0 rfl) rfl rfl rfl (gj_step (y_fa fa67_1 rfl) rfl rfl rfl (gj_step (y_load1 Tryz.isAgg3 rfl rfl) rfl rfl rfl (gj_step (y_lss rfl rfl) rfl rfl rfl (gj_step (y_assign rfl) rfl rfl rfl (gj_nil ?_)))))))))
      refine ej_th (cj_ret (ej_then_ret ?_))
      refine ej_ret1 rfl Tryz.results82 rfl (fun w' hp => ⟨?_, hp.below⟩)
      unfold beats; rw [if_pos (by simpa using h11b), if_neg (by simpa using h25b)]
    · have h25b := h25
      try simp only [sxb] at h25
      refine cj_skip (ej_th (cj_seq ?_))
      refine cj_regionG (gj_step (y_fa0 fa115_0 rfl) rfl rfl rfl (gj_step (y_fa0 fa67_0 rfl) rfl rfl rfl (gj_step (y_load1 Tryz.isAgg3 rfl rfl) rfl rfl rfl (gj_step (y_fa0 fa115_0 rfl) rfl rfl rfl (gj_step (y_fa0 fa67_0 rfl) rfl rfl rfl (gj_step (y_load1 Tryz.isAgg3 rfl rfl) rfl rfl rfl (gj_step (y_lss rfl rfl) rfl rfl rfl (gj_step (y_assign rfl) rfl rfl rfl (gj_nil ?_)))))))))
      refine ej_th (cj_ret ?_)
      refine ej_ret1 rfl Tryz.results82 rfl (fun w' hp => ⟨?_, hp.below⟩)
      unfold beats; rw [if_pos (by simpa using h11b), if_pos (by simpa using h25b)]

theorem k_largest (a b : Int) (w : World)  : Calls Tryz.prog 52 #[.int .i64 a, .int .i64 b] w (fun e w' => e = .returned (.int .i64 (max a b)) ∧ Grow w w') := by
  refine enter_pure (args := [.int .i64 a, .int .i64 b]) [] Tryz.func52 rfl (by rw [Tryz.ntmps52]; simp) (by simp) ?_
  refine cj_seq ?_
  refine cj_regionG (gj_step (y_assign rfl) rfl rfl rfl (gj_nil ?_))
  refine ej_th (cj_seq (cj_seq ?_))
  refine cj_regionG (gj_step (y_move rfl) rfl rfl rfl (gj_step (y_move rfl) rfl rfl rfl (gj_step (y_gtr rfl rfl) rfl rfl rfl (gj_nil ?_))))
  refine ej_th ?_
  refine cj_cond rfl (fun h7 => ?_) (fun h7 => ?_)
  · have h7b := h7
    try simp only [sxb] at h7
    refine cj_seq ?_
    refine cj_regionG (gj_step (y_move rfl) rfl rfl rfl (gj_step (y_assign rfl) rfl rfl rfl (gj_nil ?_)))
    refine ej_th (cj_ret (ej_then_ret ?_))
    refine ej_ret1 rfl Tryz.results52 rfl (fun w' hp => ⟨?_, hp.below⟩)
    rw [show max a b = b by omega]
  · have h7b := h7
    try simp only [sxb] at h7
    refine cj_skip (ej_th (cj_seq ?_))
    refine cj_regionG (gj_step (y_move rfl) rfl rfl rfl (gj_step (y_assign rfl) rfl rfl rfl (gj_nil ?_)))
    refine ej_th (cj_ret ?_)
    refine ej_ret1 rfl Tryz.results52 rfl (fun w' hp => ⟨?_, hp.below⟩)
    rw [show max a b = a by omega]

theorem k_price (st rv : Int) (lad : List RiseV) (Al : Option Addr) (cl : Nat) (limit second : Int) (w : World) (hlad : Rd w 2 encRi Al lad) (hok : LotOk st rv lad) : Calls Tryz.prog 53 #[.agg #[.int .i64 st, .int .i64 rv, .slice Al lad.length cl], .int .i64 limit, .int .i64 second] w (fun e w' => e = .returned (.int .i64 (priceF (rgL lad st) st limit second)) ∧ Grow w w') := by
  refine enter_pure (args := [.agg #[.int .i64 st, .int .i64 rv, .slice Al lad.length cl], .int .i64 limit, .int .i64 second]) [sl (fun b => b < w.heap.size) 2 encRi Al lad] Tryz.func53 rfl (by rw [Tryz.ntmps53]; simp) (fun g hg => by simp at hg; subst hg; exact ⟨hlad, fun _ h => h⟩) ?_
  refine cj_seq (cj_region ?_)
  refine oj_box rfl rfl rfl (fun b3 => ?_)
  refine oj_step (y_assign rfl) rfl rfl rfl ?_
  refine oj_nil ?_
  refine ej_th (cj_seq (cj_seq ?_))
  refine cj_regionG (gj_step (y_move rfl) rfl rfl rfl (gj_nil ?_))
  refine ej_th (cj_block (cj_seq ?_))
  refine cj_regionG (gj_step (y_move rfl) rfl rfl rfl (gj_step (y_eql rfl rfl) rfl rfl rfl (gj_step (y_assign rfl) rfl rfl rfl (gj_nil ?_))))
  refine ej_th ?_
  refine cj_cond rfl (fun h8 => ?_) (fun h8 => ?_)
  · have h8b := h8
    try simp only [sxb] at h8
    refine cj_seq ?_
    refine cj_regionG (gj_step (y_move rfl) rfl rfl rfl (gj_step (y_assign rfl) rfl rfl rfl (gj_nil ?_)))
    refine ej_th (cj_ret (ej_blk_ret (ej_then_ret ?_)))
    refine ej_ret1 rfl Tryz.results53 rfl (fun w' hp => ⟨?_, hp.below⟩)
    rw [priceF, if_pos (by simpa using h8b)]
  · have h8b := h8
    try simp only [sxb] at h8
    refine cj_seq ?_
    refine cj_regionG (gj_step (y_eql rfl rfl) rfl rfl rfl (gj_step (y_assign rfl) rfl rfl rfl (gj_nil ?_)))
    refine ej_th ?_
    refine cj_cond rfl (fun h12 => ?_) (fun h12 => ?_)
    · have h12b := h12
      try simp only [sxb] at h12
      refine cj_seq ?_
      refine cj_regionG (gj_step (y_fa0 fa112_0 rfl) rfl rfl rfl (gj_step (y_fa0 fa62_0 rfl) rfl rfl rfl (gj_step (y_load1 Tryz.isAgg3 rfl rfl) rfl rfl rfl (gj_step (y_assign rfl) rfl rfl rfl (gj_nil ?_)))))
      refine ej_th (cj_ret (ej_blk_ret (ej_then_ret ?_)))
      refine ej_ret1 rfl Tryz.results53 rfl (fun w' hp => ⟨?_, hp.below⟩)
      rw [priceF, if_neg (by simpa using h8b), if_pos (by simpa using h12b)]
    · have h12b := h12
      try simp only [sxb] at h12
      refine cj_skip (ej_blk (ej_th (cj_seq ?_)))
      refine cj_regionG ?_
      refine gj_step (y_loadN Tryz.isAgg112 Tryz.sizeOf112 rfl) rfl rfl rfl (gj_step (y_move rfl) rfl rfl rfl (?_))
      refine gj_step (y_call Tryz.call51 rfl (fun w hp => k_behind st rv lad Al cl second w hp.rd hok)) rfl rfl rfl ?_
      refine gj_step (y_assign rfl) rfl rfl rfl (?_)
      refine gj_nil ?_
      refine ej_th (cj_ret ?_)
      refine ej_ret1 rfl Tryz.results53 rfl (fun w' hp => ⟨?_, hp.below⟩)
      rw [priceF, if_neg (by simpa using h8b), if_neg (by simpa using h12b)]

theorem k_offer (st rv : Int) (lad : List RiseV) (Al : Option Addr) (cl : Nat) (b : BidV) (w : World) (hlad : Rd w 2 encRi Al lad) (hok : LotOk st rv lad) : Calls Tryz.prog 81 #[.agg #[.int .i64 st, .int .i64 rv, .slice Al lad.length cl], evB b] w (fun e w' => e = .returned (.tuple #[evB (offer1 (rgL lad st) b), .bool (decide (0 < (offer1 (rgL lad st) b).most))]) ∧ Grow w w') := by
  refine enter_pure (args := [.agg #[.int .i64 st, .int .i64 rv, .slice Al lad.length cl], evB b]) [sl (fun b => b < w.heap.size) 2 encRi Al lad] Tryz.func81 rfl (by rw [Tryz.ntmps81]; simp) (fun g hg => by simp at hg; subst hg; exact ⟨hlad, fun _ h => h⟩) ?_
  refine cj_seq (cj_region ?_)
  refine oj_box rfl rfl rfl (fun b2 => ?_)
  refine oj_box rfl rfl rfl (fun b3 => ?_)
  refine oj_alloc Tryz.zeroValue115 rfl rfl (fun b4 => ?_)
  refine oj_step (y_assign rfl) rfl rfl rfl ?_
  refine oj_nil ?_
  refine ej_th (cj_seq (cj_region ?_))
  refine oj_step (y_loadN Tryz.isAgg112 Tryz.sizeOf112 rfl) rfl rfl rfl ?_
  refine oj_step (y_fa fa67_2 rfl) rfl rfl rfl ?_
  refine oj_step (y_load1 Tryz.isAgg3 rfl rfl) rfl rfl rfl ?_
  refine oj_step (y_call Tryz.call103 rfl (fun w hp => k_rung st rv lad Al cl b.most w hp.rd hok)) rfl rfl rfl ?_
  refine oj_step (y_fa fa67_2 rfl) rfl rfl rfl ?_
  refine oj_store rfl rfl rfl rfl Tryz.sizeOf3 rfl ?_
  refine oj_nil ?_
  refine ej_th (cj_seq ?_)
  refine cj_plan 7 (by kernel_rfl) (by kernel_rfl) ?_
  refine pl_y 0 rfl (y_loadN Tryz.isAgg67 Tryz.sizeOf67 rfl) rfl rfl rfl rfl (by kernel_rfl) ?_
  refine pl_y 1 rfl (y_build (cs := [.int .i64 b.who, .int .i64 b.way, .int .i64 (rungR st lad b.most)]) st115 rfl (by kernel_rfl)) rfl rfl rfl rfl (by kernel_rfl) ?_
  refine pl_y 2 rfl (y_fa fa67_2 rfl) rfl rfl rfl rfl (by kernel_rfl) ?_
  refine pl_y 3 rfl (y_load1 Tryz.isAgg3 rfl rfl) rfl rfl rfl rfl (by kernel_rfl) ?_
  refine pl_y 4 rfl (y_gtr rfl rfl) rfl rfl rfl rfl (by kernel_rfl) ?_
  refine pl_w1 5 (by kernel_rfl) rfl rfl (pl_fire rfl rfl rfl (by kernel_rfl) ?_)
  refine oj_store rfl rfl rfl rfl Tryz.sizeOf115 rfl ?_
  refine oj_nil ?_
  refine ej_pl (lt_y (y_gtr rfl rfl) rfl (lt_y (y_load1 Tryz.isAgg3 rfl rfl) rfl (lt_y (y_fa fa67_2 rfl) rfl (lt_w (by kernel_rfl) (lt_w (by kernel_rfl) (lt_nil)))))) ?_
  refine pl_y 6 rfl (y_assign rfl) rfl rfl rfl rfl (by kernel_rfl) ?_
  refine pl_end (by kernel_rfl) ?_
  refine ej_th (cj_ret ?_)
  exact ej_retC2 rfl Tryz.results81 rfl (y_loadN Tryz.isAgg115 Tryz.sizeOf115 rfl) rfl (fun w' hp => ⟨rfl, hp.below⟩)

def sortO_laid_ren : Go.Shelf.Ren := ⟨fun | 6 => 83 | 15 => 105 | 14 => 104 | 28 => 131 | 29 => 132 | 20 => 123 | 21 => 124 | 22 => 125 | 23 => 126 | 24 => 127 | 25 => 128 | 26 => 129 | 27 => 130 | 46 => 150 | 47 => 151 | 48 => 152 | 49 => 153 | 50 => 154 | 57 => 171 | n => n, fun | 22 => 110 | 24 => 115 | 25 => 160 | 3 => 3 | 39 => 205 | 0 => 0 | 53 => 241 | 55 => 243 | 4 => 4 | 46 => 235 | 45 => 234 | 50 => 136 | 5 => 5 | 9 => 9 | 66 => 262 | 70 => 266 | 76 => 277 | 77 => 102 | n => n, fun n => n⟩
theorem sortO_laid : Go.Proofs.SlLaysF0.n6 Tryz.prog sortO_laid_ren where
  mixed := by kernel_rfl
  f6 := ⟨Tryz.f83.name, by kernel_rfl, Tryz.func83.trans (congrArg some (by kernel_rfl))⟩
  f14 := ⟨Tryz.f104.name, by kernel_rfl, Tryz.func104.trans (congrArg some (by kernel_rfl))⟩
  f15 := Tryz.func105.trans (congrArg some (by kernel_rfl))
  f20 := ⟨Tryz.f123.name, by kernel_rfl, Tryz.func123.trans (congrArg some (by kernel_rfl))⟩
  f21 := ⟨Tryz.f124.name, by kernel_rfl, Tryz.func124.trans (congrArg some (by kernel_rfl))⟩
  f22 := ⟨Tryz.f125.name, by kernel_rfl, Tryz.func125.trans (congrArg some (by kernel_rfl))⟩
  f23 := ⟨Tryz.f126.name, by kernel_rfl, Tryz.func126.trans (congrArg some (by kernel_rfl))⟩
  f24 := ⟨Tryz.f127.name, by kernel_rfl, Tryz.func127.trans (congrArg some (by kernel_rfl))⟩
  f25 := ⟨Tryz.f128.name, by kernel_rfl, Tryz.func128.trans (congrArg some (by kernel_rfl))⟩
  f26 := ⟨Tryz.f129.name, by kernel_rfl, Tryz.func129.trans (congrArg some (by kernel_rfl))⟩
  f27 := ⟨Tryz.f130.name, by kernel_rfl, Tryz.func130.trans (congrArg some (by kernel_rfl))⟩
  f28 := Tryz.func131.trans (congrArg some (by kernel_rfl))
  f29 := Tryz.func132.trans (congrArg some (by kernel_rfl))
  f46 := ⟨Tryz.f150.name, by kernel_rfl, Tryz.func150.trans (congrArg some (by kernel_rfl))⟩
  f47 := Tryz.func151.trans (congrArg some (by kernel_rfl))
  f48 := Tryz.func152.trans (congrArg some (by kernel_rfl))
  f49 := ⟨Tryz.f153.name, by kernel_rfl, Tryz.func153.trans (congrArg some (by kernel_rfl))⟩
  f50 := ⟨Tryz.f154.name, by kernel_rfl, Tryz.func154.trans (congrArg some (by kernel_rfl))⟩
  f57 := ⟨Tryz.f171.name, by kernel_rfl, Tryz.func171.trans (congrArg some (by kernel_rfl))⟩
  t0 := Tryz.underlying0
  a0 := Tryz.isAgg0
  z0 := Tryz.sizeOf0
  v0 := Tryz.zeroValue0
  t3 := Tryz.underlying3
  a3 := Tryz.isAgg3
  z3 := Tryz.sizeOf3
  v3 := Tryz.zeroValue3
  t4 := Tryz.underlying4
  a4 := Tryz.isAgg4
  z4 := Tryz.sizeOf4
  v4 := Tryz.zeroValue4
  t5 := Tryz.underlying5
  a5 := Tryz.isAgg5
  z5 := Tryz.sizeOf5
  v5 := Tryz.zeroValue5
  t9 := Tryz.underlying9
  a9 := Tryz.isAgg9
  z9 := Tryz.sizeOf9
  v9 := Tryz.zeroValue9
  t22 := Tryz.underlying110
  a22 := Tryz.isAgg110
  z22 := Tryz.sizeOf110
  v22 := Tryz.zeroValue110
  t25 := Tryz.underlying160
  a25 := Tryz.isAgg160
  z25 := Tryz.sizeOf160
  v25 := Tryz.zeroValue160
  t39 := Tryz.underlying205
  a39 := Tryz.isAgg205
  z39 := Tryz.sizeOf205
  v39 := Tryz.zeroValue205
  t45 := Tryz.underlying234
  a45 := Tryz.isAgg234
  z45 := Tryz.sizeOf234
  v45 := Tryz.zeroValue234
  t46 := Tryz.underlying235
  a46 := Tryz.isAgg235
  z46 := Tryz.sizeOf235
  v46 := Tryz.zeroValue235
  t50 := Tryz.underlying136
  a50 := Tryz.isAgg136
  z50 := Tryz.sizeOf136
  v50 := Tryz.zeroValue136
  t53 := Tryz.underlying241
  a53 := Tryz.isAgg241
  z53 := Tryz.sizeOf241
  v53 := Tryz.zeroValue241
  t55 := Tryz.underlying243
  a55 := Tryz.isAgg243
  z55 := Tryz.sizeOf243
  v55 := Tryz.zeroValue243
  t66 := Tryz.underlying262
  a66 := Tryz.isAgg262
  z66 := Tryz.sizeOf262
  v66 := Tryz.zeroValue262
  t70 := Tryz.underlying266
  a70 := Tryz.isAgg266
  z70 := Tryz.sizeOf266
  v70 := Tryz.zeroValue266
  t76 := Tryz.underlying277
  a76 := Tryz.isAgg277
  z76 := Tryz.sizeOf277
  v76 := Tryz.zeroValue277
  t77 := Tryz.underlying102
  a77 := Tryz.isAgg102
  z77 := Tryz.sizeOf102
  v77 := Tryz.zeroValue102
theorem k_sortO (A : Option Addr) (c : Nat) (xs : List BidV) (w : World) (hl : xs.length < 4611686018427387904) (ho : (ow 115 3 encBi A c xs).P w) :
    Calls Tryz.prog 83 #[.slice A xs.length c, .func (.func 84) #[] #[]] w (fun en w' => en = .returned (.tuple #[]) ∧ Mut (ow 115 3 encBi A c xs) w w' ∧ (ow 115 3 encBi A c (srt xs)).P w') :=
  calls_sortK sortO_laid 3 (by omega) Tryz.isAgg115 Tryz.sizeOf115 encBi (fun _ => rfl) (fun x v hv => by simp at hv; rcases hv with rfl | rfl | rfl <;> rfl) cmpO swoO totO 84 (enters_of Tryz.func84 (by kernel_rfl) rfl) k_cmpO 115 c A xs w hl ho

theorem k_offers (st rv : Int) (lad : List RiseV) (Al : Option Addr) (cl : Nat) (bs : List BidV) (Ab : Option Addr) (cb : Nat) (w : World) (hlad : Rd w 2 encRi Al lad) (hbs : Rd w 3 encBi Ab bs) (hok : LotOk st rv lad) (hb32 : bs.length ≤ 32) : Calls Tryz.prog 50 #[.agg #[.int .i64 st, .int .i64 rv, .slice Al lad.length cl], .slice Ab bs.length cb] w (fun e w' => ∃ A c, e = .returned (.slice A (offL (rgL lad st) bs).length c) ∧ Grow w w' ∧ Res w w' 3 encBi A (offL (rgL lad st) bs)) := by
  have hlen := hbs.len
  have hol := offL_len (rgL lad st) bs
  refine enter_pure (args := [.agg #[.int .i64 st, .int .i64 rv, .slice Al lad.length cl], .slice Ab bs.length cb]) [sl (fun b => b < w.heap.size) 2 encRi Al lad, sl (fun b => b < w.heap.size) 3 encBi Ab bs] Tryz.func50 rfl (by rw [Tryz.ntmps50]; simp) (fun g hg => by simp at hg; rcases hg with rfl | rfl; exact ⟨hlad, fun _ h => h⟩; exact ⟨hbs, fun _ h => h⟩) ?_
  refine cj_seq (cj_region ?_)
  refine oj_box rfl rfl rfl (fun b2 => ?_)
  refine oj_step (y_assign rfl) rfl rfl rfl ?_
  refine oj_nil ?_
  refine ej_th (cj_seq (cj_region ?_))
  refine oj_makeMapZ ekI evB rfl (fun m15 => ?_)
  refine oj_step (y_assign rfl) rfl rfl rfl ?_
  refine oj_nil ?_
  refine ej_th (cj_seq (cj_seq ?_))
  refine cj_regionG (gj_step (y_move rfl) rfl rfl rfl (gj_step (y_lenA Tryz.underlying63 rfl) rfl rfl rfl (gj_step (y_move rfl) rfl rfl rfl (gj_nil ?_))))
  refine ej_th (cj_block ?_)
  refine cj_lpi (X := Nat × List (Int × BidV)) [(2, _), (4, _), (5, _), (16, _), (17, _)] (fun ⟨k, own⟩ => k ≤ bs.length ∧ ownF (rgL lad st) (bs.drop k) own = ownF (rgL lad st) bs []) (fun ⟨k, own⟩ => [(18, .int .i64 k)]) (fun ⟨k, own⟩ => [mz ekI evB m15 own, ownB b2 (cellsB 112 [.int .i64 st, .int .i64 rv, .slice Al lad.length cl])]) (fun ⟨k, own⟩ => [sl (fun b => b < w.heap.size) 2 encRi Al lad, sl (fun b => b < w.heap.size) 3 encBi Ab bs]) (fun ⟨k, own⟩ => bs.length - k) (0, []) (⟨Nat.zero_le _, rfl⟩) ⟨rfl, rfl, rfl, rfl, rfl, rfl, trivial⟩ ?_
  rintro ⟨k, own⟩ ⟨hk, hsk⟩
  dsimp only [List.cons_append, List.nil_append]
  refine cj_seq ?_
  refine cj_regionG (gj_step (y_lss rfl rfl) rfl rfl rfl (gj_nil ?_))
  refine ej_th (cj_seq ?_)
  refine cj_cond rfl (fun h19 => ?_) (fun h19 => ?_)
  · have h19b := h19
    try simp only [sxb] at h19
    obtain ⟨b, hx⟩ : ∃ b, bs[k]? = some b := ⟨_, List.getElem?_eq_getElem (by omega)⟩
    rw [ownF_drop (rgL lad st) bs k b own hx] at hsk
    refine cj_skip (ej_th (cj_seq (cj_block (cj_seq (cj_region ?_)))))
    refine oj_step (y_ixR (reads_sl) Tryz.underlying63 Tryz.sizeOf67 rfl rfl (⟨by omega, by omega⟩)) rfl rfl rfl ?_
    refine oj_step (y_ldW (reads_sl) Tryz.isAgg67 Tryz.sizeOf67 rfl (hx) (fun _ => rfl)) rfl rfl rfl ?_
    refine oj_alloc Tryz.zeroValue67 rfl rfl (fun b7 => ?_)
    refine oj_store rfl rfl rfl rfl Tryz.sizeOf67 rfl ?_
    refine oj_nil ?_
    refine ej_th (cj_seq (cj_region ?_))
    refine oj_step (y_loadN Tryz.isAgg112 Tryz.sizeOf112 rfl) rfl rfl rfl ?_
    refine oj_step (y_loadN Tryz.isAgg67 Tryz.sizeOf67 rfl) rfl rfl rfl ?_
    refine oj_step (y_call Tryz.call81 rfl (fun w hp => k_offer st rv lad Al cl b w hp.rd hok)) rfl rfl rfl ?_
    refine oj_step (y_move rfl) rfl rfl rfl ?_
    refine oj_step (y_extract rfl rfl) rfl rfl rfl ?_
    refine oj_step (y_extract rfl rfl) rfl rfl rfl ?_
    refine oj_alloc Tryz.zeroValue115 rfl rfl (fun b8 => ?_)
    refine oj_store rfl rfl rfl rfl Tryz.sizeOf115 rfl ?_
    refine oj_step (y_assign rfl) rfl rfl rfl ?_
    refine oj_nil ?_
    refine ej_th (cj_seq (cj_region ?_))
    refine oj_step (y_move rfl) rfl rfl rfl ?_
    refine oj_step (y_fa0 fa67_0 rfl) rfl rfl rfl ?_
    refine oj_step (y_load1 Tryz.isAgg3 rfl rfl) rfl rfl rfl ?_
    refine oj_step (y_lookupZ (ek := ekI) (ev := evB) (kk := b.who) default Tryz.underlying155 Tryz.underlying3 Tryz.zeroValue115 rfl rfl) rfl rfl rfl ?_
    refine oj_step (y_move rfl) rfl rfl rfl ?_
    refine oj_step (y_extract rfl rfl) rfl rfl rfl ?_
    refine oj_step (y_extract rfl rfl) rfl rfl rfl ?_
    refine oj_alloc Tryz.zeroValue115 rfl rfl (fun b10 => ?_)
    refine oj_store rfl rfl rfl rfl Tryz.sizeOf115 rfl ?_
    refine oj_step (y_assign rfl) rfl rfl rfl ?_
    refine oj_nil ?_
    refine ej_th (cj_seq ?_)
    refine cj_regionG ?_
    refine gj_step (y_move rfl) rfl rfl rfl (gj_step (y_move rfl) rfl rfl rfl (?_))
    refine gj_g 7 36 43 rfl rfl rfl rfl (fun hg36 => gj_yes rfl rfl rfl (y_move rfl) rfl rfl (gj_yes rfl rfl rfl (y_not rfl) rfl rfl (gj_yes rfl rfl rfl (y_move rfl) rfl rfl (gj_g 3 39 42 rfl rfl rfl rfl (fun hg39 => gj_yes rfl rfl rfl (y_loadN Tryz.isAgg115 Tryz.sizeOf115 rfl) rfl rfl (gj_yes rfl rfl rfl (y_loadN Tryz.isAgg115 Tryz.sizeOf115 rfl) rfl rfl (gj_yes rfl rfl rfl (y_call Tryz.call82 rfl (fun w hp => k_beats _ _ w)) rfl rfl (gj_nil rfl)))) (gj_yes rfl rfl rfl (y_or rfl rfl rfl) rfl rfl (gj_nil rfl)))))) ?_
    refine gj_step (y_and rfl rfl rfl) rfl rfl rfl (?_)
    refine gj_nil ?_
    refine ej_th ?_
    refine cj_cond rfl (fun h44 => ?_) (fun h44 => ?_)
    · have h44b := h44
      try simp only [sxb] at h44
      rw [own_yes h44b] at hsk
      refine cj_region ?_
      refine oj_step (y_move rfl) rfl rfl rfl ?_
      refine oj_step (y_fa0 fa67_0 rfl) rfl rfl rfl ?_
      refine oj_step (y_load1 Tryz.isAgg3 rfl rfl) rfl rfl rfl ?_
      refine oj_step (y_loadN Tryz.isAgg115 Tryz.sizeOf115 rfl) rfl rfl rfl ?_
      refine oj_mapUpdateZ (ek := ekI) (ev := evB) (kk := b.who) (v := offer1 (rgL lad st) b) Tryz.underlying155 Tryz.underlying3 rfl rfl rfl ?_
      refine oj_nil ?_
      refine ej_blk (ej_th ?_)
      refine cj_regionG (gj_step (y_add rfl rfl (by omega)) rfl rfl rfl (gj_step (y_move rfl) rfl rfl rfl (gj_nil ?_)))
      exact ej_nx (k + 1, putL own b.who (offer1 (rgL lad st) b)) (by simp only; omega) ⟨by first | omega | (simp only; omega), hsk⟩ ⟨rfl, rfl, rfl, rfl, rfl, rfl, trivial⟩
    · have h44b := h44
      try simp only [sxb] at h44
      rw [own_no h44b] at hsk
      refine cj_skip (ej_blk (ej_th ?_))
      refine cj_regionG (gj_step (y_add rfl rfl (by omega)) rfl rfl rfl (gj_step (y_move rfl) rfl rfl rfl (gj_nil ?_)))
      exact ej_nx (k + 1, own) (by simp only; omega) ⟨by first | omega | (simp only; omega), hsk⟩ ⟨rfl, rfl, rfl, rfl, rfl, rfl, trivial⟩
  · have h19b := h19
    try simp only [sxb] at h19
    rw [List.drop_of_length_le (by omega)] at hsk
    have hown : own = ownF (rgL lad st) bs [] := hsk
    subst hown
    refine cj_exit (ej_then_exit (ej_then_exit (ej_blk_hit (ej_th (cj_seq ?_)))))
    refine cj_regionG (gj_step (y_assign rfl) rfl rfl rfl (gj_nil ?_))
    refine ej_th (cj_seq (cj_seq ?_))
    refine cj_ownNil 115 3 encBi ?_
    refine cj_swapO ?_
    refine cj_region ?_
    refine oj_step (y_move rfl) rfl rfl rfl ?_
    refine oj_rangeZ (ek := ekI) (ev := evB) Tryz.underlying155 rfl rfl (fun r51 => ?_)
    refine oj_nil ?_
    refine ej_th (cj_block ?_)
    refine cj_lpi (X := List (Int × BidV) × Option (Int × BidV) × Option Addr × Nat × List BidV) [(4, _), (51, _)] (fun ⟨left, cur, A1, c1, outs⟩ => outs.length + left.length ≤ 32 ∧ (outs ++ left.map (·.2)).Perm ((ownF (rgL lad st) bs []).map (·.2))) (fun ⟨left, cur, A1, c1, outs⟩ => [(12, .slice A1 outs.length c1)]) (fun ⟨left, cur, A1, c1, outs⟩ => [mit ekI evB m15 r51 left cur, ow 115 3 encBi A1 c1 outs, ownB b2 (cellsB 112 [.int .i64 st, .int .i64 rv, .slice Al lad.length cl])]) (fun ⟨left, cur, A1, c1, outs⟩ => [sl (fun b => b < w.heap.size) 2 encRi Al lad, sl (fun b => b < w.heap.size) 3 encBi Ab bs]) (fun ⟨left, cur, A1, c1, outs⟩ => left.length) (ownF (rgL lad st) bs [], none, none, 0, []) (⟨by have := hol; unfold offL at this; rw [(srt_perm _).length_eq, List.length_map] at this; simp only [List.length_nil]; omega, by simp⟩) ⟨rfl, rfl, rfl, trivial⟩ ?_
    rintro ⟨left, cur, A1, c1, outs⟩ ⟨hll, hpm⟩
    dsimp only [List.cons_append, List.nil_append]
    refine cj_seq (cj_region ?_)
    refine oj_nextZ (ek := ekI) (ev := evB) rfl rfl (fun p hpn => ?_)
    refine oj_step (y_extractNx rfl) rfl rfl rfl ?_
    refine oj_nil ?_
    refine ej_th (cj_seq ?_)
    refine cj_cond rfl (fun h53 => ?_) (fun h53 => ?_)
    · have h53b := h53
      try simp only [sxb] at h53
      obtain ⟨⟨i, p⟩, rfl⟩ := nx_some h53b
      have hpi : left[i]? = some p := hpn
      dsimp only [nxL, nxC]
      refine cj_skip (ej_th (cj_block (cj_seq (cj_region ?_))))
      refine oj_step (y_entryZ (ek := ekI) (ev := evB) (p := p) rfl rfl) rfl rfl rfl ?_
      refine oj_step (y_extract rfl rfl) rfl rfl rfl ?_
      refine oj_alloc Tryz.zeroValue115 rfl rfl (fun b14 => ?_)
      refine oj_store rfl rfl rfl rfl Tryz.sizeOf115 rfl ?_
      refine oj_nil ?_
      refine ej_th (cj_region ?_)
      refine oj_step (y_move rfl) rfl rfl rfl ?_
      refine oj_step (y_loadN Tryz.isAgg115 Tryz.sizeOf115 rfl) rfl rfl rfl ?_
      refine oj_buildSlice (cs := [.int .i64 p.2.who, .int .i64 p.2.way, .int .i64 p.2.most]) [.int .i64 0, .int .i64 0, .int .i64 0] Tryz.underlying110 Tryz.sizeOf115 Tryz.zeroValue115 rfl rfl (by kernel_rfl) (by kernel_rfl) rfl (fun b58 => ?_)
      refine oj_append (ys := [p.2]) el110 (fun _ => rfl) encBi_one rfl rfl rfl (reads_lit [p.2] (fun _ => rfl) rfl) (by unfold maxLen; simp only [List.length_cons, List.length_nil]; omega) (by simp only [List.length_cons, List.length_nil]; omega) rfl (fun A59 c59 => ?_)
      refine oj_step (y_assign rfl) rfl rfl rfl ?_
      refine oj_nil ?_
      refine ej_blk ?_
      have hil := (List.getElem?_eq_some_iff.1 hpi).1
      have hel : (left.eraseIdx i).length = left.length - 1 := List.length_eraseIdx_of_lt hil
      exact ej_nx (left.eraseIdx i, some p, A59, c59, outs ++ [p.2]) (by simp only; omega) ⟨by simp only [List.length_append, List.length_cons, List.length_nil]; omega, (erase_perm left i p hpi outs).trans hpm⟩ ⟨rfl, rfl, rfl, trivial⟩
    · have h53b := h53
      try simp only [sxb] at h53
      have hpn2 := nx_none h53b
      subst hpn2
      have hle : left = [] := hpn
      subst hle
      have hperm : outs.Perm ((ownF (rgL lad st) bs []).map (·.2)) := by simpa using hpm
      have hse : srt outs = offL (rgL lad st) bs := srt_eq hperm
      refine cj_exit (ej_then_exit (ej_then_exit (ej_blk_hit (ej_th (cj_seq (cj_region ?_))))))
      refine oj_step (y_move rfl) rfl rfl rfl ?_
      refine oj_mutOw (us := outs) (srt outs) Tryz.call83 rfl (fun w hp ho => k_sortO _ _ _ w (by omega) ho) rfl ?_
      refine oj_nil ?_
      refine ej_th (cj_seq ?_)
      refine cj_regionG (gj_step (y_move rfl) rfl rfl rfl (gj_step (y_assign rfl) rfl rfl rfl (gj_nil ?_)))
      refine ej_th (cj_ret ?_)
      have hsl : (srt outs).length = outs.length := (srt_perm outs).length_eq
      exact ej_ret1 rfl Tryz.results50 rfl (fun w' hp => ⟨A1, c1, by rw [← hse, hsl], hp.below, by rw [← hse]; exact hp.res (fun _ => rfl) (by rw [hsl]; unfold maxLen; omega)⟩)

end Go.Proofs.YtppfniekcgnmjaaGreat.Au
namespace Go.Proofs.YtppfniekcgnmjaaGreat.Au
open Go.Sx Go.RowKit
set_option maxRecDepth 20000
theorem st112 : StructIs Tryz.prog 112 [(0, 3)] [.int .i64 0, .int .i64 0, .slice none 0 0] := ⟨⟨_, Tryz.underlying112, fun w => by simp [Tryz.sizeOf62], Tryz.zeroValue112⟩⟩
theorem st69 : StructIs Tryz.prog 69 [(0, 1), (1, 1)] [.int .i64 0, .int .i64 0] := ⟨⟨_, Tryz.underlying69, fun w => by simp [Tryz.sizeOf3], Tryz.zeroValue69⟩⟩
end Go.Proofs.YtppfniekcgnmjaaGreat.Au
namespace Go.Proofs.YtppfniekcgnmjaaGreat.Au
open Go.Sx Go.RowKit Am
set_option maxRecDepth 20000
theorem k_Sell (st rv : Int) (lad : List RiseV) (Al : Option Addr) (cl : Nat) (bs : List BidV) (Ab : Option Addr) (cb : Nat) (w : World) (hlad : Rd w 2 encRi Al lad) (hbs : Rd w 3 encBi Ab bs) : Calls Tryz.prog 19 #[.agg #[.int .i64 st, .int .i64 rv, .slice Al lad.length cl], .slice Ab bs.length cb] w (fun e w' => e = .returned (.tuple #[.agg #[.int .i64 ((SellV st rv lad bs)).winner, .int .i64 ((SellV st rv lad bs)).price], .int .i64 (SellE st rv lad bs)]) ∧ Grow w w') := by
  have hlen := hbs.len
  refine enter_pure (args := [.agg #[.int .i64 st, .int .i64 rv, .slice Al lad.length cl], .slice Ab bs.length cb]) [sl (fun b => b < w.heap.size) 2 encRi Al lad, sl (fun b => b < w.heap.size) 3 encBi Ab bs] Tryz.func19 rfl (by rw [Tryz.ntmps19]; simp) (fun g hg => by simp at hg; rcases hg with rfl | rfl; exact ⟨hlad, fun _ h => h⟩; exact ⟨hbs, fun _ h => h⟩) ?_
  refine cj_seq (cj_region ?_)
  refine oj_box rfl rfl rfl (fun b2 => ?_)
  refine oj_alloc Tryz.zeroValue69 rfl rfl (fun b4 => ?_)
  refine oj_step (y_assign rfl) rfl rfl rfl ?_
  refine oj_nil ?_
  refine ej_th (cj_seq (cj_seq ?_))
  refine cj_regionG ?_
  refine gj_step (y_loadN Tryz.isAgg62 Tryz.sizeOf62 rfl) rfl rfl rfl (?_)
  refine gj_step (y_call Tryz.call48 rfl (fun w hp => k_Check st rv lad Al cl w hp.rd)) rfl rfl rfl ?_
  refine gj_step (y_assign rfl) rfl rfl rfl (?_)
  refine gj_nil ?_
  refine ej_th (cj_seq ?_)
  refine cj_regionG (gj_step (y_move rfl) rfl rfl rfl (gj_step (y_neq rfl rfl) rfl rfl rfl (gj_nil ?_)))
  refine ej_th ?_
  refine cj_cond rfl (fun h14 => ?_) (fun h14 => ?_)
  · have h14b := h14
    try simp only [sxb] at h14
    obtain ⟨e1, e2⟩ := sell_no (bs := bs) (lotE_no h14b)
    have hno := lotE_no h14b
    refine cj_seq (cj_region ?_)
    refine oj_step (y_build st69 rfl rfl) rfl rfl rfl ?_
    refine oj_step (y_move rfl) rfl rfl rfl ?_
    refine oj_store rfl rfl rfl rfl Tryz.sizeOf69 rfl ?_
    refine oj_step (y_assign rfl) rfl rfl rfl ?_
    refine oj_nil ?_
    refine ej_th (cj_ret (ej_then_ret ?_))
    refine ej_retC2 rfl Tryz.results19 rfl (y_loadN Tryz.isAgg69 Tryz.sizeOf69 rfl) rfl (fun w' hp => ⟨?_, hp.below⟩)
    rw [e1, e2, lotE, hno]; rfl
  · have h14b := h14
    try simp only [sxb] at h14
    have hyes := lotE_0 h14b
    have hok := lot_ok hyes
    refine cj_skip (ej_th (cj_seq (cj_seq ?_)))
    refine cj_regionG ?_
    refine gj_step (y_move rfl) rfl rfl rfl (?_)
    refine gj_step (y_call Tryz.call49 rfl (fun w hp => k_bids bs Ab cb w hp.rd)) rfl rfl rfl ?_
    refine gj_step (y_not rfl) rfl rfl rfl (?_)
    refine gj_nil ?_
    refine ej_th ?_
    refine cj_cond rfl (fun h19 => ?_) (fun h19 => ?_)
    · have h19b := h19
      try simp only [sxb] at h19
      obtain ⟨e1, e2⟩ := sell_no2 hyes (not_t h19b)
      refine cj_seq (cj_region ?_)
      refine oj_step (y_build st69 rfl rfl) rfl rfl rfl ?_
      refine oj_store rfl rfl rfl rfl Tryz.sizeOf69 rfl ?_
      refine oj_step (y_assign rfl) rfl rfl rfl ?_
      refine oj_nil ?_
      refine ej_th (cj_ret (ej_then_ret ?_))
      refine ej_retC2 rfl Tryz.results19 rfl (y_loadN Tryz.isAgg69 Tryz.sizeOf69 rfl) rfl (fun w' hp => ⟨?_, hp.below⟩)
      rw [e1, e2]
    · have h19b := h19
      try simp only [sxb] at h19
      have hby := not_f h19b
      have hbo := bids_ok hby
      obtain ⟨e1, e2⟩ := sell_yes hyes hby
      have hol := offL_len (rgL lad st) bs
      refine cj_skip (ej_th (cj_seq (cj_region ?_)))
      refine oj_step (y_build (cs := [.int .i64 (-1), .int .i64 0]) st69 rfl (by kernel_rfl)) rfl rfl rfl ?_
      refine oj_alloc Tryz.zeroValue69 rfl rfl (fun b7 => ?_)
      refine oj_store rfl rfl rfl rfl Tryz.sizeOf69 rfl ?_
      refine oj_nil ?_
      refine ej_th (cj_seq (cj_region ?_))
      refine oj_step (y_loadN Tryz.isAgg62 Tryz.sizeOf62 rfl) rfl rfl rfl ?_
      refine oj_step (y_build (cs := [.int .i64 st, .int .i64 rv, .slice Al lad.length cl]) st112 rfl (by kernel_rfl)) rfl rfl rfl ?_
      refine oj_step (y_move rfl) rfl rfl rfl ?_
      refine oj_callS (fun A c => .slice A (offL (rgL lad st) bs).length c) 3 encBi (offL (rgL lad st) bs) Tryz.call50 rfl (fun w hp => k_offers st rv lad Al cl bs Ab cb w hp.rd hp.rd hok hbo.1) rfl (fun A25 c25 fp25 hfp25 => ?_)
      refine oj_step (y_assign rfl) rfl rfl rfl ?_
      refine oj_nil ?_
      refine ej_th (cj_seq ?_)
      have hl0 : behF (rv - 1) (rgL lad st) = leastR st rv lad := rfl
      generalize hSS : offL (rgL lad st) bs = SS at *
      refine cj_regionG ?_
      refine gj_step (y_loadN Tryz.isAgg62 Tryz.sizeOf62 rfl) rfl rfl rfl (gj_step (y_build (cs := [.int .i64 st, .int .i64 rv, .slice Al lad.length cl]) st112 rfl (by kernel_rfl)) rfl rfl rfl (gj_step (y_fa fa62_1 rfl) rfl rfl rfl (gj_step (y_load1 Tryz.isAgg3 rfl rfl) rfl rfl rfl (gj_step (y_sub rfl rfl (by have := hok.rv; omega)) rfl rfl rfl (?_)))))
      refine gj_step (y_call Tryz.call51 rfl (fun w hp => k_behind st rv lad Al cl (rv - 1) w hp.rd hok)) rfl rfl rfl ?_
      refine gj_step (y_assign rfl) rfl rfl rfl (?_)
      refine gj_nil ?_
      refine ej_th (cj_seq (cj_seq ?_))
      refine cj_regionG (gj_step (y_move rfl) rfl rfl rfl (gj_step (y_lenA Tryz.underlying110 rfl) rfl rfl rfl (gj_step (y_eql rfl rfl) rfl rfl rfl (gj_step (y_move rfl) rfl rfl rfl (gj_g 2 35 37 rfl rfl rfl rfl (fun hg35 => gj_yes rfl rfl rfl (y_move rfl) rfl rfl (gj_yes rfl rfl rfl (y_eql rfl rfl) rfl rfl (gj_nil rfl))) (gj_step (y_or rfl rfl rfl) rfl rfl rfl (gj_step (y_move rfl) rfl rfl rfl (gj_g 7 39 46 rfl rfl rfl rfl (fun hg39 => gj_yes rfl rfl rfl (y_move rfl) rfl rfl (gj_yes rfl rfl rfl (y_ixR (reads_sl) Tryz.underlying110 Tryz.sizeOf115 rfl rfl (⟨by omega, by have := hg39; simp only [sxb] at this; omega⟩)) rfl rfl (gj_yes rfl rfl rfl (y_faE fa115_0 rfl) rfl rfl (gj_yes rfl rfl rfl (y_faE fa67_2 rfl) rfl rfl (gj_yes rfl rfl rfl (y_ld1 (reads_sl) Tryz.isAgg3 rfl (geq default (by have := hg39; simp only [sxb] at this; omega)) rfl) rfl rfl (gj_yes rfl rfl rfl (y_move rfl) rfl rfl (gj_yes rfl rfl rfl (y_lss rfl rfl) rfl rfl (gj_nil rfl)))))))) (gj_step (y_or rfl rfl rfl) rfl rfl rfl (gj_nil ?_))))))))))
      refine ej_th ?_
      refine cj_cond rfl (fun h47 => ?_) (fun h47 => ?_)
      · have h47b := h47
        try simp only [sxb] at h47
        rw [hl0] at h47b
        have hs := sellP_no (rs := rgL lad st) (st := st) h47b
        rw [hs] at e1
        refine cj_seq (cj_region ?_)
        refine oj_step (y_loadN Tryz.isAgg69 Tryz.sizeOf69 rfl) rfl rfl rfl ?_
        refine oj_store rfl rfl rfl rfl Tryz.sizeOf69 rfl ?_
        refine oj_step (y_assign rfl) rfl rfl rfl ?_
        refine oj_nil ?_
        refine ej_th (cj_ret (ej_then_ret ?_))
        refine ej_retC2 rfl Tryz.results19 rfl (y_loadN Tryz.isAgg69 Tryz.sizeOf69 rfl) rfl (fun w' hp => ⟨?_, hp.below⟩)
        rw [e1, e2]
      · have h47b := h47
        try simp only [sxb] at h47
        rw [hl0] at h47b
        obtain ⟨o, t, hSo, hs⟩ := sellP_yes (rs := rgL lad st) (st := st) h47b
        rw [hs] at e1
        subst hSo
        have ho : (o :: t)[(0 : Int).toNat]? = some o := rfl
        refine cj_skip (ej_th (cj_seq ?_))
        refine cj_regionG (gj_step (y_assign rfl) rfl rfl rfl (gj_nil ?_))
        refine ej_th ?_
        refine cj_cutic (X := Int) [(2, _), (4, _), (5, _), (8, _), (9, _)] ⟨rfl, rfl, rfl, rfl, rfl, trivial⟩ (fun s => s = secT t) (fun s => [(10, .int .i64 s)]) ?_ ?_
        · refine cj_seq ?_
          refine cj_regionG (gj_step (y_move rfl) rfl rfl rfl (gj_step (y_lenA Tryz.underlying110 rfl) rfl rfl rfl (gj_step (y_gtr rfl rfl) rfl rfl rfl (gj_nil ?_))))
          refine ej_th ?_
          refine cj_cond rfl (fun h51 => ?_) (fun h51 => ?_)
          · have h51b := h51
            try simp only [sxb] at h51
            have hs1 : ((o :: t).getD (1 : Int).toNat default).most = secT t := by
              cases t with
              | nil => simp only [List.length_cons, List.length_nil] at h51; omega
              | cons q t2 => rfl
            refine cj_regionG (gj_step (y_move rfl) rfl rfl rfl (gj_step (y_ixR (reads_sl) Tryz.underlying110 Tryz.sizeOf115 rfl rfl (⟨by omega, by omega⟩)) rfl rfl rfl (gj_step (y_faE fa115_0 rfl) rfl rfl rfl (gj_step (y_faE fa67_2 rfl) rfl rfl rfl (gj_step (y_ld1 (reads_sl) Tryz.isAgg3 rfl (geq default (by omega)) rfl) rfl rfl rfl (gj_step (y_assign rfl) rfl rfl rfl (gj_nil ?_)))))))
            exact ej_ct _ hs1 ⟨rfl, rfl, rfl, rfl, rfl, rfl, trivial⟩
          · have h51b := h51
            try simp only [sxb] at h51
            have hs0 : (0 : Int) = secT t := by
              cases t with
              | nil => rfl
              | cons q t2 => simp only [List.length_cons] at h51; omega
            refine cj_skip ?_
            exact ej_ct 0 hs0 ⟨rfl, rfl, rfl, rfl, rfl, rfl, trivial⟩
        · rintro _ rfl
          dsimp only [List.cons_append, List.nil_append]
          refine cj_seq ?_
          refine cj_plan 19 (by kernel_rfl) (by kernel_rfl) ?_
          refine pl_y 0 rfl (y_move rfl) rfl rfl rfl rfl (by kernel_rfl) ?_
          refine pl_y 1 rfl (y_ixR (reads_sl) Tryz.underlying110 Tryz.sizeOf115 rfl rfl (⟨by omega, by simp only [List.length_cons]; omega⟩)) rfl rfl rfl rfl (by kernel_rfl) ?_
          refine pl_y 2 rfl (y_faE fa115_0 rfl) rfl rfl rfl rfl (by kernel_rfl) ?_
          refine pl_y 3 rfl (y_faE fa67_0 rfl) rfl rfl rfl rfl (by kernel_rfl) ?_
          refine pl_y 4 rfl (y_ld1 (reads_sl) Tryz.isAgg3 rfl (ho) rfl) rfl rfl rfl rfl (by kernel_rfl) ?_
          refine pl_y 5 rfl (y_move rfl) rfl rfl rfl rfl (by kernel_rfl) ?_
          refine pl_y 6 rfl (y_loadN Tryz.isAgg62 Tryz.sizeOf62 rfl) rfl rfl rfl rfl (by kernel_rfl) ?_
          refine pl_y 7 rfl (y_build (cs := [.int .i64 st, .int .i64 rv, .slice Al lad.length cl]) st112 rfl (by kernel_rfl)) rfl rfl rfl rfl (by kernel_rfl) ?_
          refine pl_y 8 rfl (y_move rfl) rfl rfl rfl rfl (by kernel_rfl) ?_
          refine pl_y 9 rfl (y_ixR (reads_sl) Tryz.underlying110 Tryz.sizeOf115 rfl rfl (⟨by omega, by simp only [List.length_cons]; omega⟩)) rfl rfl rfl rfl (by kernel_rfl) ?_
          refine pl_y 10 rfl (y_faE fa115_0 rfl) rfl rfl rfl rfl (by kernel_rfl) ?_
          refine pl_y 11 rfl (y_faE fa67_2 rfl) rfl rfl rfl rfl (by kernel_rfl) ?_
          refine pl_y 12 rfl (y_ld1 (reads_sl) Tryz.isAgg3 rfl (ho) rfl) rfl rfl rfl rfl (by kernel_rfl) ?_
          refine pl_y 13 rfl (y_move rfl) rfl rfl rfl rfl (by kernel_rfl) ?_
          refine pl_y 14 rfl (y_call Tryz.call53 rfl (fun w hp => k_price st rv lad Al cl _ _ w hp.rd hok)) rfl rfl rfl rfl (by kernel_rfl) ?_
          refine pl_y 15 rfl (y_call Tryz.call52 rfl (fun w hp => k_largest _ _ w)) rfl rfl rfl rfl (by kernel_rfl) ?_
          refine pl_y 16 rfl (y_build (cs := [.int .i64 o.who, .int .i64 (max (leastR st rv lad) (priceF (rgL lad st) st o.most (secT t)))]) st69 rfl (by kernel_rfl)) rfl rfl rfl rfl (by kernel_rfl) ?_
          refine pl_w1 17 (by kernel_rfl) rfl rfl (pl_fire rfl rfl rfl (by kernel_rfl) ?_)
          refine oj_store rfl rfl rfl rfl Tryz.sizeOf69 rfl ?_
          refine oj_nil ?_
          refine ej_pl (lt_w (by kernel_rfl) (lt_w (by kernel_rfl) (lt_w (by kernel_rfl) (lt_w (by kernel_rfl) (lt_w (by kernel_rfl) (lt_w (by kernel_rfl) (lt_w (by kernel_rfl) (lt_w (by kernel_rfl) (lt_w (by kernel_rfl) (lt_w (by kernel_rfl) (lt_w (by kernel_rfl) (lt_w (by kernel_rfl) (lt_w (by kernel_rfl) (lt_w (by kernel_rfl) (lt_w (by kernel_rfl) (lt_w (by kernel_rfl) (lt_w (by kernel_rfl) (lt_nil)))))))))))))))))) ?_
          refine pl_y 18 rfl (y_assign rfl) rfl rfl rfl rfl (by kernel_rfl) ?_
          refine pl_end (by kernel_rfl) ?_
          refine ej_th (cj_ret ?_)
          refine ej_retC2 rfl Tryz.results19 rfl (y_loadN Tryz.isAgg69 Tryz.sizeOf69 rfl) rfl (fun w' hp => ⟨?_, hp.below⟩)
          rw [e1, e2]

end Go.Proofs.YtppfniekcgnmjaaGreat.Au
namespace Go.Proofs.YtppfniekcgnmjaaGreat.Au
open Go.Sx Go.RowKit
set_option maxRecDepth 20000

end Go.Proofs.YtppfniekcgnmjaaGreat.Au
namespace Go.Proofs.YtppfniekcgnmjaaGreat.Au
open Go.Sx Go.RowKit Am
set_option maxRecDepth 20000
end Go.Proofs.YtppfniekcgnmjaaGreat.Au
namespace Go.Proofs.YtppfniekcgnmjaaGreat.Au
open Go.Sx Go.RowKit
set_option maxRecDepth 20000

end Go.Proofs.YtppfniekcgnmjaaGreat.Au
namespace Go.Proofs.YtppfniekcgnmjaaGreat.Au
open Go.Sx Go.RowKit Am
set_option maxRecDepth 20000
end Go.Proofs.YtppfniekcgnmjaaGreat.Au
namespace Go.Proofs.YtppfniekcgnmjaaGreat.Au
open Go.Sx Go.RowKit
set_option maxRecDepth 20000

end Go.Proofs.YtppfniekcgnmjaaGreat.Au
namespace Go.Proofs.YtppfniekcgnmjaaGreat.Au
open Go.Sx Go.RowKit Am
set_option maxRecDepth 20000
end Go.Proofs.YtppfniekcgnmjaaGreat.Au
namespace Go.Proofs.YtppfniekcgnmjaaGreat.Au
open Go Go.Sx Go.RowKit Am

structure ListV where
  A : Option Addr
  c : Nat
  l : List Int
abbrev encLs (x : ListV) : List Value := [.slice x.A x.l.length x.c]
def GoodL (w : World) (x : ListV) : Prop := Rd w 1 enInt x.A x.l
theorem GoodL.mono {w w' : World} {x : ListV} (h : GoodL w x) (hg : Grow w w') : GoodL w' x := Rd.mono h hg
/-- all rows read as they are -/
def rwF (fp : Nat → Prop) (vs : List ListV) : Fact where
  fp := fp
  P := fun w => ∀ r ∈ vs, (sl fp 1 enInt r.A r.l).P w
  stab := fun h k r hr => (sl fp 1 enInt r.A r.l).stab h (k r hr)
theorem rw_good {F : Nat → Prop} {w0 w : World} {O S : List Fact} (hp : Hp F w0 O S w) {fp : Nat → Prop} {vs : List ListV} (h : rwF fp vs ∈ S) : ∀ r ∈ vs, GoodL w r := fun r hr => sl_fp ((hp.shared _ h).1 r hr) (fun i hi => (hp.shared _ h).2.1 i hi)
def rowsV (vs : List ListV) : List (List Int) := vs.map (fun r : ListV => r.l)
theorem rowsV_len (vs : List ListV) : (rowsV vs).length = vs.length := by simp [rowsV]
theorem rowsV_get {vs : List ListV} {i : Nat} {r : ListV} (h : vs[i]? = some r) : (rowsV vs)[i]? = some r.l := by unfold rowsV; rw [List.getElem?_map, h]; rfl
theorem vv_get {vs : List ListV} {i j : Nat} {r : ListV} {x : Int} (h : vs[i]? = some r) (hx : r.l[j]? = some x) : vv (rowsV vs) i j = x := by
  unfold vv
  rw [List.getD_eq_getElem?_getD (l := rowsV vs), rowsV_get h]
  simp only [Option.getD_some]
  rw [List.getD_eq_getElem?_getD, hx]; rfl
def okv (n : Int) : Bool := btw 0 n 100000
def rowOk (m : Nat) (r : ListV) : Bool := ((r.l.length : Int) == (m : Int)) && r.l.all okv
def cloB (res : List Int) (vs : List ListV) : Bool := ((btw 1 res.length 5 && res.all okv) && btw 1 vs.length 6) && vs.all (rowOk res.length)
def cloE (res : List Int) (vs : List ListV) : Int := if cloB res vs = true then 0 else 62
structure CloOk (res : List Int) (rows : List (List Int)) : Prop where
  m : res.length ≤ 6
  n : rows.length ≤ 6
  len : ∀ r ∈ rows, r.length = res.length
  res : ∀ x ∈ res, 0 ≤ x ∧ x ≤ 100000
  val : ∀ r ∈ rows, ∀ x ∈ r, 0 ≤ x ∧ x ≤ 100000
theorem CloOk.nn {res : List Int} {rows : List (List Int)} (h : CloOk res rows) : nnL res ∧ ∀ r ∈ rows, nnL r := ⟨fun x hx => (h.res x hx).1, fun r hr x hx => (h.val r hr x hx).1⟩
theorem clo_ok {res : List Int} {vs : List ListV} (h : cloB res vs = true) : CloOk res (rowsV vs) ∧ (1 ≤ res.length ∧ res.length ≤ 5) ∧ (1 ≤ vs.length ∧ vs.length ≤ 6) := by
  unfold cloB at h
  simp only [Bool.and_eq_true, btw_t] at h
  obtain ⟨⟨⟨h1, h2⟩, h3⟩, h4⟩ := h
  have hr : ∀ r ∈ rowsV vs, r.length = res.length ∧ ∀ x ∈ r, 0 ≤ x ∧ x ≤ 100000 := by
    intro r hr
    obtain ⟨v, hv, e⟩ := List.mem_map.1 hr
    have := List.all_eq_true.1 h4 v hv
    unfold rowOk at this
    rw [Bool.and_eq_true, beq_iff_eq] at this
    rw [← e]
    exact ⟨by have := this.1; omega, fun x hx => btw_t.1 (List.all_eq_true.1 this.2 x hx)⟩
  refine ⟨⟨by omega, by rw [rowsV_len]; omega, fun r h => (hr r h).1, fun x hx => btw_t.1 (List.all_eq_true.1 h2 x hx), fun r h => (hr r h).2⟩, by omega, by omega⟩
theorem cloE_0 {res : List Int} {vs : List ListV} (h : (cloE res vs != 0) = false) : cloB res vs = true := by
  unfold cloE at h
  cases hb : cloB res vs with
  | true => rfl
  | false => rw [hb] at h; simp at h
theorem cloE_no {res : List Int} {vs : List ListV} (h : (cloE res vs != 0) = true) : cloB res vs = false := by
  unfold cloE at h
  cases hb : cloB res vs with
  | true => rw [hb] at h; simp at h
  | false => rfl
def cloH (res : List Int) (vs : List ListV) : Bool := (btw 1 res.length 5 && res.all okv) && btw 1 vs.length 6
theorem cloH_V (res : List Int) (vs : List ListV) : (((!(decide ((1 : Int) ≤ res.length) && decide ((res.length : Int) ≤ 5))) || !(res.all okv)) || !(decide ((1 : Int) ≤ vs.length) && decide ((vs.length : Int) ≤ 6))) = !(cloH res vs) := by
  unfold cloH btw
  rw [← Bool.not_and, ← Bool.not_and]
theorem cloB_H (res : List Int) (vs : List ListV) : cloB res vs = (cloH res vs && vs.all (rowOk res.length)) := rfl
theorem row_V (m : Nat) (r : ListV) : (((r.l.length : Int) != (m : Int)) || !(r.l.all okv)) = !(rowOk m r) := by
  unfold rowOk
  rw [Bool.not_and]; rfl
/-! lists that fit -/
theorem seek_has : ∀ (l : List Int) (n i : Int), 0 ≤ i → decide (0 ≤ seek l n i) = l.contains n
  | [], n, i, _ => by simp [seek]
  | x :: l, n, i, h => by
    rw [seek]
    by_cases hx : x = n
    · rw [if_pos hx, hx]; simp [h]
    · rw [if_neg hx, seek_has l n (i + 1) (by omega), List.contains_cons]
      have : (n == x) = false := beq_eq_false_iff_ne.2 (fun e => hx e.symm)
      rw [this, Bool.false_or]
theorem ow_sl {α : Type} {fp' : Nat → Prop} {e sz c : Nat} {enc : α → List Value} {A : Option Addr} {xs : List α} {w : World} (h : (ow e sz enc A c xs).P w) (he : ∀ x, (enc x).length = sz) (hm : xs.length ≤ maxLen) (hf : ∀ b, (ow e sz enc A c xs).fp b → fp' b) : (sl fp' sz enc A xs).P w := by
  refine ⟨hm, fun hne => ?_⟩
  obtain ⟨a, ha, hc⟩ := ow_cells h he hne
  exact ⟨a, ha, hf _ (by rw [ha]; rfl), hc⟩
theorem Hp.frz {F : Nat → Prop} {w0 w : World} {O O' S : List Fact} (hp : Hp F w0 O S w) (o f : Fact) (hs : (o :: O').Sublist O) (hP : f.P w) (hfp : ∀ b, f.fp b → o.fp b ∨ ∃ g ∈ S, g.fp b) : Hp F w0 O' (f :: S) w := by
  have h1 := hp.sub (O' := o :: O') (S' := S) hs (fun _ h => h)
  have h2 := hp.sub (O' := O') (S' := S) ((List.sublist_cons_self o O').trans hs) (fun _ h => h)
  refine ⟨h2.os, h2.tape, h2.output, h2.size, h2.fr, h2.own, h2.apart, fun g hg => ?_⟩
  rcases List.mem_cons.1 hg with rfl | hg
  · refine ⟨hP, fun b hb => ?_, fun q hq b hb hqb => ?_⟩
    · rcases hfp b hb with h | ⟨g, hg, h⟩
      · exact ((h1.own o (List.mem_cons_self ..)).2 b h).1
      · exact (h2.shared g hg).2.1 b h
    · rcases hfp b hb with h | ⟨g, hg, h⟩
      · exact (List.pairwise_cons.1 h1.apart).1 q hq b h hqb
      · exact (h2.shared g hg).2.2 q hq b h hqb
  · exact h2.shared g hg
theorem ej_frz {C : Cx} {Q : Exit → Act → World → Prop} {e : Exit} {L : Regs} {O O' S : List Fact} (o f : Fact) [hs : SubO (o :: O') O] (hP : ∀ w, Hp C.F C.w0 O S w → f.P w) (hfp : ∀ b, f.fp b → o.fp b ∨ ∃ g ∈ S, g.fp b) (k : EJ C Q e L O' (f :: S)) : EJ C Q e L O S :=
  fun a w hr hp => k a w hr (Hp.frz hp o f hs.sub (hP w hp) hfp)
theorem encLs_one (x : ListV) : ∀ v ∈ encLs x, v.oneCell' = true := by simp [encLs, Value.oneCell']
theorem rows_new {w0 w : World} {O S : List Fact} (hp : Hp (fun b => b < w0.heap.size) w0 O S w) {fp : Nat → Prop} {rs : List ListV} {e c : Nat} {A : Option Addr} {l : List Int} (hfp : ∀ b, fp b → w0.heap.size ≤ b) (hm : l.length ≤ maxLen) (h : rwF fp rs ∈ S) (ho : ow e 1 enInt A c l ∈ O) : (rwF (fun i => (fp i ∨ (ow e 1 enInt A c l).fp i) ∧ w0.heap.size ≤ i) (rs ++ [⟨A, c, l⟩])).P w := by
  intro r hr
  rcases List.mem_append.1 hr with hr | hr
  · exact sl_fp ((hp.shared _ h).1 r hr) (fun b hb => ⟨.inl hb, hfp b hb⟩)
  · rw [List.mem_singleton.1 hr]
    exact ow_sl (hp.own _ ho).1 enInt_len hm (fun b hb => ⟨.inr hb, Nat.le_of_not_lt ((hp.own _ ho).2 b hb).2⟩)
theorem with_facts {w0 w : World} {O S : List Fact} (hp : Hp (fun b => b < w0.heap.size) w0 O S w) {fp : Nat → Prop} {rs : List ListV} {A Av : Option Addr} {c cv : Nat} {l : List Int} (hfp : ∀ b, fp b → w0.heap.size ≤ b) (hl : l.length ≤ maxLen) (hr : rs.length ≤ maxLen) (h1 : ow 3 1 enInt A c l ∈ O) (h2 : ow 23 1 encLs Av cv rs ∈ O) (h3 : rwF fp rs ∈ S) :
    ∀ g ∈ [sl (fun i => w0.heap.size ≤ i ∧ i < w.heap.size) 1 enInt A l, sl (fun i => w0.heap.size ≤ i ∧ i < w.heap.size) 1 encLs Av rs, rwF (fun i => w0.heap.size ≤ i ∧ i < w.heap.size) rs], g.P w ∧ ∀ b, g.fp b → w0.heap.size ≤ b ∧ b < w.heap.size ∧ ∀ o ∈ ([] : List Fact), ¬ o.fp b := by
  intro g hg
  have hn : ∀ o ∈ O, ∀ b, o.fp b → w0.heap.size ≤ b ∧ b < w.heap.size := fun o ho b hb => ⟨Nat.le_of_not_lt ((hp.own o ho).2 b hb).2, ((hp.own o ho).2 b hb).1⟩
  simp only [List.mem_cons, List.mem_nil_iff, or_false] at hg
  rcases hg with rfl | rfl | rfl
  · exact ⟨ow_sl (hp.own _ h1).1 enInt_len hl (fun b hb => hn _ h1 b hb), fun b hb => ⟨hb.1, hb.2, by simp⟩⟩
  · exact ⟨ow_sl (hp.own _ h2).1 (fun _ => rfl) hr (fun b hb => hn _ h2 b hb), fun b hb => ⟨hb.1, hb.2, by simp⟩⟩
  · exact ⟨fun r hr => sl_fp ((hp.shared _ h3).1 r hr) (fun b hb => ⟨hfp b hb, (hp.shared _ h3).2.1 b hb⟩), fun b hb => ⟨hb.1, hb.2, by simp⟩⟩
/-- a closing that was made anew -/
structure WithZ where
  B : Option Addr
  d : Nat
  Bv : Option Addr
  dv : Nat
  rows : List ListV
  n1 : Nat
  n2 : Nat
theorem withV_snoc {vs : List ListV} {i k : Nat} {r : ListV} (h : vs[i]? = some r) (rows : List ListV) (A : Option Addr) (c : Nat) (hr : rowsV rows = withV ((rowsV vs).take i) k) : rowsV (rows ++ [⟨A, c, r.l ++ [r.l.getD k 0]⟩]) = withV ((rowsV vs).take (i + 1)) k := by
  rw [List.take_add_one, rowsV_get h]
  unfold rowsV withV at *
  rw [List.map_append, hr, List.map_append]; rfl
theorem clo_with {res : List Int} {rows : List (List Int)} {k : Nat} (h : CloOk res rows) (h5 : res.length ≤ 5) : CloOk (withR res k) (withV rows k) := by
  have hb : ∀ l : List Int, (∀ x ∈ l, 0 ≤ x ∧ x ≤ 100000) → ∀ x ∈ l ++ [l.getD k 0], 0 ≤ x ∧ x ≤ 100000 := by
    intro l hl x hx
    rcases List.mem_append.1 hx with e | e
    · exact hl x e
    · simp only [List.mem_singleton] at e
      rw [e, List.getD_eq_getElem?_getD]
      cases hq : l[k]? with
      | none => simp
      | some y => exact hl y (List.mem_of_getElem? hq)
  refine ⟨by rw [with_len]; omega, by rw [withV_len]; exact h.n, fun r hr => ?_, hb res h.res, fun r hr => ?_⟩
  · obtain ⟨l, hl, e⟩ := List.mem_map.1 hr
    rw [← e, with_len, List.length_append, h.len l hl]; rfl
  · obtain ⟨l, hl, e⟩ := List.mem_map.1 hr
    rw [← e]; exact hb l (h.val l hl)
theorem worth_bd {res : List Int} {rows : List (List Int)} {to : List Int} (h : CloOk res rows) (ht : to.length ≤ rows.length) : 0 ≤ worthP res rows to ∧ worthP res rows to ≤ 1200000 := by
  refine ⟨worth_nn h.nn.1 h.nn.2 to, ?_⟩
  have hvv : ∀ i j, vv rows i j ≤ 100000 := by
    intro i j
    unfold vv
    rw [List.getD_eq_getElem?_getD (l := rows)]
    cases hr : rows[i]? with
    | none => simp
    | some r =>
      simp only [Option.getD_some]
      rw [List.getD_eq_getElem?_getD]
      cases hx : r[j]? with
      | none => simp
      | some x => exact (h.val r (List.mem_of_getElem? hr) x (List.mem_of_getElem? hx)).2
  have g1 : ∀ (l : List Int) (k n : Int), (∀ x ∈ l, 0 ≤ x ∧ x ≤ 100000) → wFree to l k n ≤ n + 100000 * l.length := by
    intro l
    induction l with
    | nil => intro k n _; simp [wFree]
    | cons r l ih =>
      intro k n hl
      rw [wFree]
      have h1 := ih (k + 1) (if to.contains k then n else n + r) (fun x hx => hl x (List.mem_cons_of_mem _ hx))
      have h2 := hl r (List.mem_cons_self ..)
      have h3 : (if to.contains k then n else n + r) ≤ n + 100000 := by split <;> omega
      rw [List.length_cons]; omega
  have g2 : ∀ (t : List Int) (i : Nat) (n : Int), wGot rows t i n ≤ n + 100000 * t.length := by
    intro t
    induction t with
    | nil => intro i n; simp [wGot]
    | cons k t ih =>
      intro i n
      rw [wGot]
      have h1 := ih (i + 1) (if 0 ≤ k then n + vv rows i k.toNat else n)
      have h2 := hvv i k.toNat
      have h3 : (if 0 ≤ k then n + vv rows i k.toNat else n) ≤ n + 100000 := by split <;> omega
      rw [List.length_cons]; omega
  have e1 := g1 res 0 0 h.res
  have e2 := g2 to 0 (wFree to res 0 0)
  have := h.m; have := h.n
  unfold worthP
  omega
theorem best_bd {res : List Int} {rows : List (List Int)} (h : CloOk res rows) : 0 ≤ (bestF res rows).2 ∧ (bestF res rows).2 ≤ 1200000 := by
  obtain ⟨_, h2, h3, _⟩ := best_spec h.nn.1 h.nn.2
  rw [h3]; exact worth_bd h (by omega)
def CloA (res : List Int) (vs : List ListV) : List Int × List Int := if cloB res vs = true then ((bestF res (rowsV vs)).1, pricesL res (rowsV vs)) else ([], [])
theorem cloA_no {res : List Int} {vs : List ListV} (h : cloB res vs = false) : CloA res vs = ([], []) ∧ cloE res vs = 62 := by unfold CloA cloE; rw [h]; simp
theorem cloA_yes {res : List Int} {vs : List ListV} (h : cloB res vs = true) : CloA res vs = ((bestF res (rowsV vs)).1, pricesL res (rowsV vs)) ∧ cloE res vs = 0 := by unfold CloA cloE; rw [h]; simp
theorem prices_snoc (res : List Int) (rows : List (List Int)) (k : Nat) : (List.range (k + 1)).map (priceC res rows) = (List.range k).map (priceC res rows) ++ [priceC res rows k] := by rw [List.range_succ, List.map_append]; rfl
theorem award_facts {w0 w : World} {O S : List Fact} (hp : Hp (fun b => b < w0.heap.size) w0 O S w) {A B : Option Addr} {c d : Nat} {l m : List Int} (hl : l.length ≤ maxLen) (hm : m.length ≤ maxLen) (h1 : ow 3 1 enInt A c l ∈ O) (h2 : ow 3 1 enInt B d m ∈ O) :
    ∀ g ∈ [sl (fun i => w0.heap.size ≤ i ∧ i < w.heap.size) 1 enInt A l, sl (fun i => w0.heap.size ≤ i ∧ i < w.heap.size) 1 enInt B m], g.P w ∧ ∀ b, g.fp b → w0.heap.size ≤ b ∧ b < w.heap.size ∧ ∀ o ∈ ([] : List Fact), ¬ o.fp b := by
  intro g hg
  have hn : ∀ o ∈ O, ∀ b, o.fp b → w0.heap.size ≤ b ∧ b < w.heap.size := fun o ho b hb => ⟨Nat.le_of_not_lt ((hp.own o ho).2 b hb).2, ((hp.own o ho).2 b hb).1⟩
  simp only [List.mem_cons, List.mem_nil_iff, or_false] at hg
  rcases hg with rfl | rfl
  · exact ⟨ow_sl (hp.own _ h1).1 enInt_len hl (fun b hb => hn _ h1 b hb), fun b hb => ⟨hb.1, hb.2, by simp⟩⟩
  · exact ⟨ow_sl (hp.own _ h2).1 enInt_len hm (fun b hb => hn _ h2 b hb), fun b hb => ⟨hb.1, hb.2, by simp⟩⟩
theorem nil_facts {w0 w : World} {A B : Option Addr} : ∀ g ∈ [sl (fun i => w0.heap.size ≤ i ∧ i < w.heap.size) 1 enInt A [], sl (fun i => w0.heap.size ≤ i ∧ i < w.heap.size) 1 enInt B []], g.P w ∧ ∀ b, g.fp b → w0.heap.size ≤ b ∧ b < w.heap.size ∧ ∀ o ∈ ([] : List Fact), ¬ o.fp b := by
  intro g hg
  simp only [List.mem_cons, List.mem_nil_iff, or_false] at hg
  rcases hg with rfl | rfl
  · exact ⟨⟨Nat.zero_le _, fun h => absurd rfl h⟩, fun b hb => ⟨hb.1, hb.2, by simp⟩⟩
  · exact ⟨⟨Nat.zero_le _, fun h => absurd rfl h⟩, fun b hb => ⟨hb.1, hb.2, by simp⟩⟩
theorem most_bd {res : List Int} : ∀ {rows : List (List Int)}, CloOk res rows → ∀ f : Nat, 0 ≤ mostR res rows f ∧ mostR res rows f ≤ 600000 + 100000 * rows.length := by
  intro rows h f
  obtain ⟨⟨σ, s1, s2, s3⟩, b⟩ := mostR_spec res rows f
  have h0 := b (fun _ => none) ⟨fun _ _ _ h => (by cases h), fun _ _ _ _ _ h => (by cases h)⟩ (fun _ _ _ h => (by cases h))
  have hz : wt rows.length (wv res rows) (fun _ => none) = 0 := (sumN_congr (f := fun i => gt (wv res rows) i none) (g := fun _ => 0) (fun _ _ => rfl)).trans (sumN_zero _)
  have hf0 : 0 ≤ freeR res f := by
    have := sumN_le (n := res.length) (f := fun _ => 0) (g := fun j => if f.testBit j then rv res j else 0) (fun j hj => by split; exact getD_nn h.nn.1 j; exact Int.le_refl _)
    rw [sumN_zero] at this; exact this
  have hf1 : freeR res f ≤ 100000 * res.length := by
    have key : ∀ n, sumN n (fun j => if f.testBit j then rv res j else 0) ≤ 100000 * n := by
      intro n
      induction n with
      | zero => simp [sumN]
      | succ n ih =>
        rw [sumN]
        have : (if f.testBit n then rv res n else 0) ≤ 100000 := by
          split
          · unfold rv
            rw [List.getD_eq_getElem?_getD]
            cases hx : res[n]? with
            | none => simp
            | some x => exact (h.res x (List.mem_of_getElem? hx)).2
          · omega
        omega
    exact key _
  have hw1 : wt rows.length (wv res rows) σ ≤ 100000 * rows.length := by
    have key : ∀ n, sumN n (fun i => gt (wv res rows) i (σ i)) ≤ 100000 * n := by
      intro n
      induction n with
      | zero => simp [sumN]
      | succ n ih =>
        rw [sumN]
        have : gt (wv res rows) n (σ n) ≤ 100000 := by
          cases σ n with
          | none => show (0 : Int) ≤ 100000; omega
          | some j =>
            show vv rows n j - rv res j ≤ 100000
            have h1 : 0 ≤ rv res j := getD_nn h.nn.1 j
            have h2 : vv rows n j ≤ 100000 := by
              unfold vv
              rw [List.getD_eq_getElem?_getD (l := rows)]
              cases hr : rows[n]? with
              | none => simp
              | some r =>
                simp only [Option.getD_some]
                rw [List.getD_eq_getElem?_getD]
                cases hx : r[j]? with
                | none => simp
                | some x => exact (h.val r (List.mem_of_getElem? hr) x (List.mem_of_getElem? hx)).2
            omega
        omega
    exact key _
  have := h.m
  omega
theorem CloOk.drop {res : List Int} {rows : List (List Int)} (h : CloOk res rows) (k : Nat) : CloOk res (rows.drop k) :=
  ⟨h.m, by rw [List.length_drop]; have := h.n; omega, fun r hr => h.len r (List.mem_of_mem_drop hr), h.res, fun r hr => h.val r (List.mem_of_mem_drop hr)⟩
end Go.Proofs.YtppfniekcgnmjaaGreat.Au
namespace Go.Proofs.YtppfniekcgnmjaaGreat.Au
open Go.Sx Go.RowKit
set_option maxRecDepth 20000
theorem fa130_0 : FieldIs Tryz.prog 130 0 0 1 false := ⟨⟨_, _, Tryz.underlying130, rfl, rfl, Tryz.sizeOf23, Tryz.isAgg23, by decide⟩⟩
theorem fa130_1 : FieldIs Tryz.prog 130 1 1 1 false := ⟨⟨_, _, Tryz.underlying130, rfl, rfl, Tryz.sizeOf128, Tryz.isAgg128, by decide⟩⟩
theorem fa226_0 : FieldIs Tryz.prog 226 0 0 2 true := ⟨⟨_, _, Tryz.underlying226, rfl, rfl, Tryz.sizeOf130, Tryz.isAgg130, by decide⟩⟩
end Go.Proofs.YtppfniekcgnmjaaGreat.Au
