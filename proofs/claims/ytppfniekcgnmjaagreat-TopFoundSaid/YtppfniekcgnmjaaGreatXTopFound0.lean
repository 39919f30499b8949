/- Texts of ours, joined: 36 of them. Conditions: none. -/
import Derived.Test.YtppfniekcgnmjaaGreatZc
import Derived.Maps.RangeRun
import Derived.Maps.AppendAt
import Derived.Laws.Cover3
import Derived.Recover
import Derived.WalkKit
import Derived.Test.YtppfniekcgnmjaaGreatProg
import Derived.Laws.StructEq
import Derived.Laws.Strings2
import Derived.Laws.Slices
import Derived.Laws.BytesString
namespace Go.Sx
open Go.RowKit

/-- As Iter; but the iterator may hold on to facts of its own ('X') from round to round. -/
def IterX {α : Type} (P : Program) (gf : Nat) (lb : Array Value) (encs : α → List Value) (xs : List α) (Sit : List Fact) : Prop :=
  ∀ (l : Nat) (J Jx : List Fact → Nat → World → Prop) (W : World), (∀ X k W W', J X k W → Grow W W' → J X k W') →
    (∀ (fs X : List Fact) k W W', J X k W → Grow W W' → (∀ f ∈ fs, f.P W' ∧ ∀ b, f.fp b → W.heap.size ≤ b ∧ b < W'.heap.size) → J (fs ++ X) k W') → (∀ (f : Fact) X k W, J (f :: X) k W → J X k W) →
    (∀ X k W, J X k W → ∀ g ∈ Sit ++ X, g.P W ∧ ∀ b, g.fp b → b < W.heap.size) → (∀ X k W W', Jx X k W → Grow W W' → Jx X k W') → (∀ (f : Fact) X k W, Jx (f :: X) k W → Jx X k W) →
    (∀ X k W, Jx X k W → ∀ g ∈ Sit ++ X, g.P W ∧ ∀ b, g.fp b → b < W.heap.size) →
    (∀ X k x W, xs[k]? = some x → J X k W → YieldAt (FR none) 0 P l (encs x).toArray W (fun e W' => (e = .returned (.bool true) ∧ J X (k + 1) W') ∨ (e = .returned (.bool false) ∧ Jx X (k + 1) W'))) → J [] 0 W →
    Calls P gf (#[.func (.yield l) #[] #[]] ++ lb) W (fun e W' => (∃ v, e = .returned v) ∧ (J [] xs.length W' ∨ ∃ k, Jx [] k W'))

theorem hp_addL {F : Nat → Prop} {w0 : World} {O S X : List Fact} {W W' : World} (h : Hp F w0 O (S ++ X) W) (hgr : Grow W W') (fs : List Fact) (hfs : ∀ f ∈ fs, f.P W' ∧ ∀ b, f.fp b → W.heap.size ≤ b ∧ b < W'.heap.size) : Hp F w0 O (S ++ (fs ++ X)) W' :=
  { h.grow hgr with
    shared := fun g hg => by
      rcases List.mem_append.1 hg with hg | hg
      · exact (h.grow hgr).shared g (List.mem_append_left _ hg)
      · rcases List.mem_append.1 hg with hg | hg
        · exact ⟨(hfs g hg).1, fun b hb => ((hfs g hg).2 b hb).2, fun o ho b hb hob => by
            have h1 := ((hfs g hg).2 b hb).1
            have h2 := ((h.own o ho).2 b hob).1
            omega⟩
        · exact (h.grow hgr).shared g (List.mem_append_right _ hg) }

section
variable {P : Program} {F : Nat → Prop} {w0 : World} {N : Nat} {S : List Fact}
/-- THE CALLER'S RULE. -/
theorem cj_rangeX {α Y Z : Type} {g : Operand} {ps : List Tmp} {assign body : Code} {Q : Exit → Act → World → Prop} {L : Regs} {O : List Fact} {gf : Nat} {lb : Array Value} {encs : α → List Value} {xs : List α} {Sit : List Fact}
    (hseq : IterX P gf lb encs xs Sit) (inv : Nat → Y → Prop) (Ox : Nat → Y → List Fact) (cz : Z → Code) (Oz : Z → List Fact) (y0 : Y) (h0 : inv 0 y0)
    (hg : val L g = some (.func (.func gf) #[] lb)) (hf : ∀ args w, (callFunc gf args).run P w = .ok (.enter gf args) w) (hps : ∀ x, (encs x).length = ps.length) (hpN : (ps.all fun p => Nat.blt p N) = true) [hO : SubO (Ox 0 y0) O] [hSit : SubO Sit S]
    (round : ∀ (X : List Fact) (l Db : Nat) (r0 r1 : Obj) k x y, xs[k]? = some x → inv k y → CJ (CR P F w0 N l) assign (BegQ (CR P F w0 N l) (S ++ X) l r0 r1 body (BodyQ F w0 (S ++ X) l Db r1 (inv (k + 1)) (Ox (k + 1)) cz Oz)) (parR (ps.zip (encs x)) L) (ownB l r0 :: ownB Db (.deferred (some [])) :: Ox k y) (S ++ X))
    (done : ∀ Db y, inv xs.length y → EJ ⟨P, none, F, w0, N, [⟨.collected Db, #[]⟩]⟩ Q .normal L (ownB Db (.deferred (some [])) :: Ox xs.length y) S)
    (stop : ∀ Db z, CJ ⟨P, none, F, w0, N, [⟨.collected Db, #[]⟩]⟩ (cz z) Q L (ownB Db (.deferred (some [])) :: Oz z) S) :
    CJ ⟨P, none, F, w0, N, []⟩ (.rangeFunc g ps.toArray assign body) Q L O S := by
  intro a w hr hp
  refine wpIn_rangeFunc (n := 0) ?_
  intro fn hfn
  obtain ⟨rec, hrec⟩ : ∃ rec : LoopState → Option Code → Loop, rec = fun st pe => { state := st, pending := pe, fn, tmps := a.tmps, params := ps.toArray, assign, body, defers := w.heap.size } := ⟨_, rfl⟩
  obtain ⟨W1, hW1⟩ : ∃ W1, (w.alloc (.deferred (some []))).alloc (.loop (rec .ready none)) = W1 := ⟨_, rfl⟩
  have hpW : Hp F w0 (ownB (w.heap.size + 1) (.loop (rec .ready none)) :: ownB w.heap.size (.deferred (some [])) :: Ox 0 y0) S W1 := by
    rw [← hW1]
    have h1 : Hp F w0 (ownB w.heap.size (.deferred (some [])) :: Ox 0 y0) S (w.alloc (.deferred (some []))) :=
      (hp.sub hO.sub (fun _ h => h)).addO ((Below.refl _ _).alloc (Nat.le_refl _) _) _ (heap_alloc_new w _) (fun b hb => by
        have : b = w.heap.size := hb
        subst this; simp)
    refine h1.addO ((Below.refl _ _).alloc (Nat.le_refl _) _) _ ?_ (fun b hb => by
      have : b = w.heap.size + 1 := hb
      subst this; simp)
    have := heap_alloc_new (w.alloc (.deferred (some []))) (.loop (rec .ready none))
    rwa [World.size_alloc] at this
  refine ⟨w.heap.size + 1, [{ target := .collected w.heap.size, args := #[] }], W1, { target := .fn (.func gf) lb, args := #[.func (.yield (w.heap.size + 1)) #[] #[]] }, W1, gf,
    #[.func (.yield (w.heap.size + 1)) #[] #[]] ++ lb, W1, ?_, ?_, fun _ _ => trivial, ?_, (fun h => by cases h), ?_⟩
  · rw [← hW1, hrec]; exact run_enterLoop_outer _ _ _ _ _
  · simp only [resolve, hr.val hg]
    simp [go_sem]
  · simp [invoke, hf]
  · refine callsIn_FR.2 ((hseq (w.heap.size + 1) (fun X k W => ∃ y, inv k y ∧ Hp F w0 (ownB (w.heap.size + 1) (.loop (rec .ready none)) :: ownB w.heap.size (.deferred (some [])) :: Ox k y) (S ++ X) W)
      (fun X _ W => ∃ z, Hp F w0 (ownB (w.heap.size + 1) (.loop (rec .done (some (cz z)))) :: ownB w.heap.size (.deferred (some [])) :: Oz z) (S ++ X) W) W1 ?_ ?_ ?_ ?_ ?_ ?_ ?_ ?_ ⟨y0, h0, by rw [List.append_nil]; exact hpW⟩).mono ?_)
    · rintro X k W W' ⟨y, hi, h⟩ hgr; exact ⟨y, hi, h.grow hgr⟩
    · rintro fs X k W W' ⟨y, hi, h⟩ hgr hfs
      exact ⟨y, hi, hp_addL h hgr fs hfs⟩
    · rintro f X k W ⟨y, hi, h⟩
      exact ⟨y, hi, h.sub (List.Sublist.refl _) (fun g hg => by
        rcases List.mem_append.1 hg with h | h
        · exact List.mem_append_left _ h
        · exact List.mem_append_right _ (List.mem_cons_of_mem _ h))⟩
    · rintro X k W ⟨y, hi, h⟩ g hg'
      rcases List.mem_append.1 hg' with hg' | hg'
      · have h9 := h.shared g (List.mem_append_left _ (hSit.sub.subset hg'))
        exact ⟨h9.1, h9.2.1⟩
      · have h9 := h.shared g (List.mem_append_right _ hg')
        exact ⟨h9.1, h9.2.1⟩
    · rintro X k W W' ⟨z, h⟩ hgr; exact ⟨z, h.grow hgr⟩
    · rintro f X k W ⟨z, h⟩
      exact ⟨z, h.sub (List.Sublist.refl _) (fun g hg => by
        rcases List.mem_append.1 hg with h | h
        · exact List.mem_append_left _ h
        · exact List.mem_append_right _ (List.mem_cons_of_mem _ h))⟩
    · rintro X k W ⟨z, h⟩ g hg'
      rcases List.mem_append.1 hg' with hg' | hg'
      · have h9 := h.shared g (List.mem_append_left _ (hSit.sub.subset hg'))
        exact ⟨h9.1, h9.2.1⟩
      · have h9 := h.shared g (List.mem_append_right _ hg')
        exact ⟨h9.1, h9.2.1⟩
    · rintro X k x W hx ⟨y, hi, h⟩
      have hl : W.heap[w.heap.size + 1]? = some (.loop (rec .ready none)) := h.at (List.mem_cons_self ..)
      have hy := run_yield (P := P) (args := (encs x).toArray) hl (by rw [hrec]; simpa using hps x)
      rw [hrec] at hy
      refine ⟨fn, _, assign, body, hy, roundIn_of_wpIn hfn ?_⟩
      have hreg : RegsOk N [] (parR (ps.zip (encs x)) L) ⟨(ps.toArray.zip (encs x).toArray).foldl (fun tmps (t, a) => tmps.setIfInBounds t a) a.tmps, []⟩ := by
        have h1 := parR_ok (D := []) (ps.zip (encs x)) L a.tmps (fun p hp => by
          have := List.all_eq_true.1 hpN p.1 (List.of_mem_zip hp).1
          simpa [Nat.blt_eq] using this) ⟨rfl, hr.size, hr.look⟩
        have e : (ps.toArray.zip (encs x).toArray).foldl (fun tmps (t, a) => tmps.setIfInBounds t a) a.tmps = (ps.zip (encs x)).foldl (fun t p => t.setIfInBounds p.1 p.2) a.tmps := by simp
        rw [e]; exact h1
      refine wpIn_mono (round X _ w.heap.size (.loop (rec .ready none)) (.loop (rec .busy none)) k x y hx hi _ W hreg h) ?_
      intro e a1 w1 hq
      cases e <;> first | exact (show False from hq).elim | skip
      obtain ⟨L1, O1, O2, hr1, hp1, hrep, hb⟩ := hq
      have hl1 : w1.heap[w.heap.size + 1]? = some (.loop (rec .ready none)) := hp1.at hrep.mem
      refine ⟨_, run_beginRound hl1 (by rw [hrec]), ?_⟩
      have hp2 := hp1.put hrep
      have hbusy : ({ rec .ready none with state := .busy } : Loop) = rec .busy none := by rw [hrec]
      rw [hbusy]
      refine wpIn_mono (hb a1 _ hr1 hp2) ?_
      intro e a2 w2 hq2
      have fin : ∀ (jump : Option Code) (Oq : List Fact), Hp F w0 (ownB (w.heap.size + 1) (.loop (rec .busy none)) :: ownB w.heap.size (.deferred (some [])) :: Oq) (S ++ X) w2 →
          ∃ w3, (Instr.endRound (w.heap.size + 1) jump).run P w2 = .ok (.bool jump.isNone) w3 ∧ Hp F w0 (ownB (w.heap.size + 1) (.loop (rec (if jump.isNone then .ready else .done) jump)) :: ownB w.heap.size (.deferred (some [])) :: Oq) (S ++ X) w3 := fun jump Oq hq3 => by
        have hl2 : w2.heap[w.heap.size + 1]? = some (.loop (rec .busy none)) := hq3.at (List.mem_cons_self ..)
        refine ⟨_, run_endRound (P := P) jump hl2, ?_⟩
        have hb2 : ({ rec .busy none with state := if jump.isNone then .ready else .done, pending := jump } : Loop) = rec (if jump.isNone then .ready else .done) jump := by rw [hrec]
        rw [hb2]
        exact hq3.put (.head _ _ _)
      cases e with
      | normal =>
        obtain ⟨y', hi', hp3⟩ := hq2
        obtain ⟨w3, hr3, hp4⟩ := fin none _ hp3
        exact ⟨_, w3, hr3, .inl ⟨rfl, y', hi', hp4⟩⟩
      | ret =>
        obtain ⟨z, hz, hp3⟩ := hq2
        obtain ⟨w3, hr3, hp4⟩ := fin (some .ret) _ hp3
        exact ⟨_, w3, hr3, .inr ⟨rfl, z, by rw [hz]; exact hp4⟩⟩
      | exit id =>
        obtain ⟨z, hz, hp3⟩ := hq2
        obtain ⟨w3, hr3, hp4⟩ := fin (some (.exit id)) _ hp3
        exact ⟨_, w3, hr3, .inr ⟨rfl, z, by rw [hz]; exact hp4⟩⟩
      | goto t => exact (show False from hq2).elim
      | panic ch => exact (show False from hq2).elim
      | outgrown => exact (show False from hq2).elim
    · rintro e W2 ⟨⟨v, rfl⟩, h⟩
      have hd : ∀ (Db : Nat), RegsOk N [⟨.collected Db, #[]⟩] L { a with defers := [{ target := .collected Db, args := #[] }] ++ a.defers } := fun Db => by
        have := hr.defers
        exact ⟨by show [_] ++ a.defers = _; rw [this]; rfl, hr.size, hr.look⟩
      simp only [List.append_nil] at h
      rcases h with ⟨y, hi, h⟩ | ⟨_, z, h⟩
      · have hl : W2.heap[w.heap.size + 1]? = some (.loop (rec .ready none)) := h.at (List.mem_cons_self ..)
        refine ⟨none, _, (by have := run_endLoop (P := P) hl (by rw [hrec]; simp); rw [hrec] at this; exact this), ?_⟩
        exact done w.heap.size y hi _ _ (hd _) ((h.put (.head _ _ _)).sub (List.sublist_cons_self ..) (fun _ h => h))
      · have hl : W2.heap[w.heap.size + 1]? = some (.loop (rec .done (some (cz z)))) := h.at (List.mem_cons_self ..)
        refine ⟨some (cz z), _, (by have := run_endLoop (P := P) hl (by rw [hrec]; simp); rw [hrec] at this; exact this), ?_⟩
        exact stop w.heap.size z _ _ (hd _) ((h.put (.head _ _ _)).sub (List.sublist_cons_self ..) (fun _ h => h))
end


section
variable {C : Cx} {Q : Exit → Act → World → Prop} {L : Regs} {O S : List Fact} {ops : Array Oper} {rest : List Oper} {ty : TypeId} {pos : String} {aft : Array Edge} {d : Nat}
/-- A yield, whatever is told. -/
theorem oj_yieldB {l : Nat} {x : Operand} {xs : List Operand} {vs : List Value} {ats : Array TypeId} {T : Bool → World → Prop} (S' : List Fact) (hro : C.ro = none) (hx : val L x = some (.func (.yield l) #[] #[])) (hv : valsO L xs = some vs)
    (hy : ∀ w, Hp C.F C.w0 O S w → YieldAt (FR none) 0 C.P l vs.toArray w (fun e W' => (e = .returned (.bool true) ∧ T true W') ∨ (e = .returned (.bool false) ∧ T false W'))) (hdN : Nat.blt d C.N = true)
    (hS : ∀ b W', T b W' → ∀ g ∈ S', g.P W' ∧ ∀ i, g.fp i → i < W'.heap.size) (k1 : ∀ b W', T b W' → OJ (C.rb W') ops Q rest ((d, .bool b) :: L) [] S') :
    OJ C ops Q (⟨some d, .call ⟨.value x, xs.toArray, ats⟩, ty, pos, aft, none⟩ :: rest) L O S :=
  oj_yield (T := T true) (U := T false) S' hro hx hv hy hdN (fun W' h => ⟨hS true W' h, k1 true W' h⟩) (fun W' h => fun a w hr hp => k1 false W' h a w hr (by
    have h2 := hp.grow (Below.refl _ _)
    exact ⟨h2.os, h2.tape, h2.output, h2.size, h2.fr, h2.own, h2.apart, fun g hg => ⟨g.stab (fun b hb => (hp.below.block b ((hS false W' h g hg).2 b hb))) (hS false W' h g hg).1, fun b hb => Nat.lt_of_lt_of_le ((hS false W' h g hg).2 b hb) hp.size, by simp⟩⟩))
theorem ej_rdS {Y Z : Type} {C : Cx} {l Db : Nat} {r1 : Obj} {inv : Y → Prop} {Ox : Y → List Fact} {cz : Z → Code} {Oz : Z → List Fact} {L : Regs} {O S S' : List Fact} (y : Y) (hi : inv y) [hO : SubO (ownB l r1 :: ownB Db (.deferred (some [])) :: Ox y) O] (hS : ∀ f ∈ S, f ∈ S') :
    EJ C (BodyQ C.F C.w0 S l Db r1 inv Ox cz Oz) .normal L O S' := fun _ _ _ hp => ⟨y, hi, hp.sub hO.sub hS⟩
/-! ### Results of a function that holds such a loop: two cells and a number -/
end
end Go.Sx
namespace Go.Sx
open Go.RowKit
section
variable {C : Cx} {Q : Exit → Act → World → Prop} {L : Regs} {O S : List Fact} {ops : Array Oper}
end
/-! ### Drawn regions with guards that are known -/
section
variable {C : Cx} {Q : Exit → Act → World → Prop} {l : List Oper} {n : Nat} {his : List Nat} {pend : List Pend} {L : Regs} {O S : List Fact}
theorem pl_case (dj : Nat) {g : Bool} (hl : look L dj = some (.bool g)) (ht : g = true → Plan C l Q n his pend L O S) (hf : g = false → Plan C l Q n his pend L O S) : Plan C l Q n his pend L O S := by
  cases g with
  | true => exact ht rfl
  | false => exact hf rfl
theorem steps_yY {o : Oper} {ops : Array Oper} {v : Value} {j dj : Nat} {b g : Bool} (ho : o.guard = some (j, b)) (hj : (ops[j]?).bind (·.dst) = some dj) (hl : look L dj = some (.bool g)) (e : g = b) (hy : Yi C o L O S v) : Steps1 C ops O S o L v :=
  fun a w hr hp => .inl ⟨by rw [wanted_of hr ho hj hl, e]; simp, hy.1, hy.2 a w hr hp⟩
theorem steps_yN {o : Oper} {ops : Array Oper} {j dj : Nat} {b g : Bool} (ho : o.guard = some (j, b)) (hj : (ops[j]?).bind (·.dst) = some dj) (hl : look L dj = some (.bool g)) (e : g = !b) : Steps1 C ops O S o L undef :=
  fun a w hr _ => .inr ⟨by rw [wanted_of hr ho hj hl, e]; cases b <;> rfl, rfl⟩
theorem pl_yY (i : Nat) {o : Oper} {d : Nat} {v : Value} {j dj : Nat} {b g : Bool} (hi : l[i]? = some o) (ho : o.guard = some (j, b)) (hj : (l.toArray[j]?).bind (·.dst) = some dj) (hl : look L dj = some (.bool g)) (e : g = b) (hy : Yi C o L O S v) (hd : o.dst = some d) (hdN : Nat.blt d C.N = true) (hn : his.contains i = false) (hs : seesOk l his i o = true)
    (k : Plan C l Q n (i :: his) (⟨i, o, L, v⟩ :: pend) ((d, v) :: L) O S) : Plan C l Q (n + 1) his pend L O S :=
  .inl ⟨i, o, d, v, hi, hd, by simpa [Nat.blt_eq] using hdN, by simpa using hn, hs, steps_yY ho hj hl e hy, k⟩
theorem pl_yN (i : Nat) {o : Oper} {d : Nat} {j dj : Nat} {b g : Bool} (hi : l[i]? = some o) (ho : o.guard = some (j, b)) (hj : (l.toArray[j]?).bind (·.dst) = some dj) (hl : look L dj = some (.bool g)) (e : g = !b) (hd : o.dst = some d) (hdN : Nat.blt d C.N = true) (hn : his.contains i = false) (hs : seesOk l his i o = true)
    (k : Plan C l Q n (i :: his) (⟨i, o, L, undef⟩ :: pend) ((d, undef) :: L) O S) : Plan C l Q (n + 1) his pend L O S :=
  .inl ⟨i, o, d, undef, hi, hd, by simpa [Nat.blt_eq] using hdN, by simpa using hn, hs, steps_yN ho hj hl e, k⟩
theorem pl_fireG {i : Nat} {o : Oper} {j dj : Nat} {b g : Bool} (hi : l[i]? = some o) (ho : o.guard = some (j, b)) (hj : (l.toArray[j]?).bind (·.dst) = some dj) (hl : look L dj = some (.bool g)) (e : g = b) (hd : (match o.dst with | some d => Nat.blt d C.N | none => true) = true) (hs : seesOk l his i o = true)
    (h : OJ C l.toArray (NP C Q fun a' w' => ∃ F' w0' L' O' S', RegsOk C.N C.D L' a' ∧ Hp F' w0' O' S' w' ∧ Later (C.mv F' w0') l pend o O' S' ∧ Plan (C.mv F' w0') l Q n (i :: his) pend L' O' S') [o] L O S) : Fires C l Q n his pend L O S i :=
  ⟨o, hi, fun a hr => by rw [wanted_of hr ho hj hl, e]; simp, fun d hd' => by rw [hd'] at hd; simpa [Nat.blt_eq] using hd, hs, h⟩
theorem oj_yesE {ops : Array Oper} {rest : List Oper} {o : Oper} {j dj : Nat} {b g : Bool} (ho : o.guard = some (j, b)) (hj : (ops[j]?).bind (·.dst) = some dj) (hl : look L dj = some (.bool g)) (e : g = b) (k : OJ C ops Q (⟨o.dst, o.op, o.type, o.pos, o.after, none⟩ :: rest) L O S) : OJ C ops Q (o :: rest) L O S :=
  oj_yes ho hj (by rw [hl, e]) k
end
section
variable {C : Cx} {L : Regs} {O S : List Fact} {dst : Option Tmp} {ty : TypeId} {pos : String} {aft : Array Edge} {gu : Option (Nat × Bool)} {c x y : Operand} {g : Bool}
theorem y_pickT {u : Value} (hc : val L c = some (.bool g)) (e : g = true) (hx : val L x = some u) : Yi C ⟨dst, .pick c x y, ty, pos, aft, gu⟩ L O S u :=
  yi_val (by intro c h; cases h) fun a w hr _ => by
    subst e; simp [execOp, hr.val hc, hr.val hx, asBool]
theorem y_pickF {v : Value} (hc : val L c = some (.bool g)) (e : g = false) (hy : val L y = some v) : Yi C ⟨dst, .pick c x y, ty, pos, aft, gu⟩ L O S v :=
  yi_val (by intro c h; cases h) fun a w hr _ => by
    subst e; simp [execOp, hr.val hc, hr.val hy, asBool]
end
/-! ### Facts in another order -/
theorem Hp.permO {F : Nat → Prop} {w0 w : World} {O O' S : List Fact} (h : Hp F w0 O S w) (hp : O.Perm O') : Hp F w0 O' S w :=
  ⟨h.os, h.tape, h.output, h.size, h.fr, fun f hf => h.own f (hp.symm.subset hf), hp.pairwise h.apart (fun hxy b hb hb' => hxy b hb' hb), fun f hf => ⟨(h.shared f hf).1, (h.shared f hf).2.1, fun g hg => (h.shared f hf).2.2 g (hp.symm.subset hg)⟩⟩
theorem cj_swapO {C : Cx} {Q : Exit → Act → World → Prop} {cd : Code} {L : Regs} {f g : Fact} {O S : List Fact} (k : CJ C cd Q L (g :: f :: O) S) : CJ C cd Q L (f :: g :: O) S :=
  fun a w hr hp => k a w hr (hp.permO (.swap _ _ _))
end Go.Sx
namespace Go.Sx
open Go.RowKit

/-! ### One cell as the result, behind a range over a function -/
section
variable {C : Cx} {L : Regs} {O S : List Fact}
theorem ej_retMc1 {fn : Func} {R : Ending → World → Prop} {p : Tmp} {t : TypeId} {a : Addr} {v : Value} {Db : Nat} {O' : List Fact} (hD : C.D = [⟨.collected Db, #[]⟩]) (h : fn.results = #[.cell p t]) [hup : UpdB O Db (.deferred (some [])) (.deferred none) O'] (hx : val L (.tmp p) = some (.pointer (some a))) (hy : Yi C ⟨none, .load t (.tmp p), 0, "", #[], none⟩ L O' S v)
    (hR : ∀ w, Hp C.F C.w0 O' S w → R (.returned v) w) : EJ C (bodyPostM (FR none) 0 C.P fn R) .ret L O S := fun ac w hr hp => by
  show LeavesInM _ _ _ _ _ _ _ _ _
  rw [hr.defers, hD]
  refine ⟨by simp, .inl ⟨Db, _, rfl, run_takeDeferred (hp.at hup.rep.mem), ?_⟩⟩
  refine ⟨_, ?_, hR _ (hp.put hup.rep)⟩
  have h0 := getQ_of_look hr hx
  simp [results, h, h0, asAddr, yi_loadVar hx hy hr (hp.put hup.rep)]
end

/-! ### Several things of the caller's -/
structure MutL (Os : List Fact) (w w' : World) : Prop where
  os : w'.os = w.os
  tape : w'.tape = w.tape
  output : w'.output = w.output
  size : w.heap.size ≤ w'.heap.size
  same : ∀ b, b < w.heap.size → (∀ f ∈ Os, ¬ f.fp b) → w'.heap[b]? = w.heap[b]?
/-- The facts 'Ps' stand for 'Os' now. -/
structure Giv (Os : List Fact) (w w' : World) (Ps : List Fact) : Prop where
  mu : MutL Os w w'
  has : ∀ f ∈ Ps, f.P w' ∧ ∀ b, f.fp b → b < w'.heap.size ∧ ((∃ g ∈ Os, g.fp b) ∨ w.heap.size ≤ b)
  apart : Ps.Pairwise (fun f g => ∀ b, f.fp b → ¬ g.fp b)
/-- What a function may not touch: all that was there but what it got. -/
def FrO (w : World) (Os : List Fact) : Nat → Prop := fun i => i < w.heap.size ∧ ∀ f ∈ Os, ¬ f.fp i
theorem enterO {P : Program} {f : FuncId} {fn : Func} {c : Code} {args : List Value} {w : World} {R : Ending → World → Prop} (Os S : List Fact)
    (hf : P.funcs[f]? = some fn) (hb : fn.body = some c) (hn : args.length ≤ fn.ntmps) (hO : ∀ f ∈ Os, f.P w ∧ ∀ b, f.fp b → b < w.heap.size) (hap : Os.Pairwise (fun f g => ∀ b, f.fp b → ¬ g.fp b))
    (hS : ∀ g ∈ S, g.P w ∧ ∀ i, g.fp i → i < w.heap.size ∧ ∀ f ∈ Os, ¬ f.fp i)
    (h : CJ ⟨P, none, FrO w Os, w, fn.ntmps, []⟩ c (bodyPost P fn R) (regsOf 0 args) Os S) : Calls P f args.toArray w R :=
  enter (FrO w Os) Os S hf hb hn ⟨rfl, rfl, rfl, Nat.le_refl _, fun _ hi => ⟨hi.1, rfl⟩, fun g hg => ⟨(hO g hg).1, fun b hb => ⟨(hO g hg).2 b hb, fun h => h.2 g hg hb⟩⟩, hap, fun g hg => ⟨(hS g hg).1, fun i hi => ((hS g hg).2 i hi).1, fun o ho i hi hio => ((hS g hg).2 i hi).2 o ho hio⟩⟩ h
theorem Hp.giv {w0 w : World} {Os O S : List Fact} (hp : Hp (FrO w0 Os) w0 O S w) (Ps : List Fact) [h : SubO Ps O] : Giv Os w0 w Ps :=
  ⟨⟨hp.os, hp.tape, hp.output, hp.size, fun b hb hn => (hp.fr b ⟨hb, hn⟩).2⟩, fun f hf => ⟨(hp.own f (h.sub.subset hf)).1, fun b hb => ⟨((hp.own f (h.sub.subset hf)).2 b hb).1, by
    have h1 := ((hp.own f (h.sub.subset hf)).2 b hb).2
    by_cases hlt : b < w0.heap.size
    · left
      refine Classical.byContradiction fun hno => h1 ⟨hlt, fun g hg hgb => hno ⟨g, hg, hgb⟩⟩
    · exact .inr (by omega)⟩⟩, hp.apart.sublist h.sub⟩
theorem Hp.takeGiv {F : Nat → Prop} {w0 w w' : World} {O Os R S Ps : List Fact} (hp : Hp F w0 O S w) (hperm : O.Perm (Os ++ R)) (hg : Giv Os w w' Ps) : Hp F w0 (Ps ++ R) S w' := by
  have h1 := hp.permO hperm
  obtain ⟨hm, hh, hpa⟩ := hg
  have hapx := List.pairwise_append.1 h1.apart
  have hR : ∀ f ∈ R, ∀ b, f.fp b → b < w.heap.size ∧ ∀ g ∈ Os, ¬ g.fp b := fun f hf b hb => ⟨((h1.own f (List.mem_append_right _ hf)).2 b hb).1, fun g hg hgb => hapx.2.2 g hg f hf b hgb hb⟩
  refine ⟨hm.os.trans hp.os, hm.tape.trans hp.tape, hm.output.trans hp.output, Nat.le_trans hp.size hm.size, fun b hb => ?_, fun f hf => ?_, ?_, fun f hf => ?_⟩
  · exact ⟨(h1.fr b hb).1, (hm.same b (Nat.lt_of_lt_of_le (h1.fr b hb).1 h1.size) (fun f hf hfb => ((h1.own f (List.mem_append_left _ hf)).2 b hfb).2 hb)).trans (h1.fr b hb).2⟩
  · rcases List.mem_append.1 hf with hf | hf
    · refine ⟨(hh f hf).1, fun b hb => ⟨((hh f hf).2 b hb).1, fun hF => ?_⟩⟩
      rcases ((hh f hf).2 b hb).2 with ⟨g, hg, hgb⟩ | h3
      · exact ((h1.own g (List.mem_append_left _ hg)).2 b hgb).2 hF
      · have h4 := (h1.fr b hF).1; have h5 := h1.size; omega
    · have h2 := h1.own f (List.mem_append_right _ hf)
      exact ⟨f.stab (fun b hb => hm.same b (h2.2 b hb).1 (hR f hf b hb).2) h2.1, fun b hb => ⟨Nat.lt_of_lt_of_le (h2.2 b hb).1 hm.size, (h2.2 b hb).2⟩⟩
  · refine List.pairwise_append.2 ⟨hpa, hapx.2.1, fun f hf g hg b hb hgb => ?_⟩
    rcases ((hh f hf).2 b hb).2 with ⟨o, ho, hob⟩ | h3
    · exact (hR g hg b hgb).2 o ho hob
    · have := (hR g hg b hgb).1; omega
  · have h2 := h1.shared f hf
    refine ⟨f.stab (fun b hb => hm.same b (h2.2.1 b hb) (fun g hg hgb => h2.2.2 g (List.mem_append_left _ hg) b hb hgb)) h2.1, fun b hb => Nat.lt_of_lt_of_le (h2.2.1 b hb) hm.size, fun o ho b hb hob => ?_⟩
    rcases List.mem_append.1 ho with ho | ho
    · rcases ((hh o ho).2 b hob).2 with ⟨g, hg, hgb⟩ | h3
      · exact h2.2.2 g (List.mem_append_left _ hg) b hb hgb
      · have := h2.2.1 b hb; omega
    · exact h2.2.2 o (List.mem_append_right _ ho) b hb hob
/-- Facts taken out of a list, one by one. -/
class Take1 (O : List Fact) (f : Fact) (R : outParam (List Fact)) : Prop where
  perm : O.Perm (f :: R)
instance (priority := 1000) Take1.head (f : Fact) (O : List Fact) : Take1 (f :: O) f O := ⟨.refl _⟩
instance (priority := 900) Take1.tail (g f : Fact) (O R : List Fact) [h : Take1 O f R] : Take1 (g :: O) f (g :: R) := ⟨(h.perm.cons g).trans (.swap _ _ _)⟩
class Takes (O Os : List Fact) (R : outParam (List Fact)) : Prop where
  perm : O.Perm (Os ++ R)
instance Takes.nil (O : List Fact) : Takes O [] O := ⟨.refl _⟩
instance Takes.cons (O O1 Os R : List Fact) (f : Fact) [h : Take1 O f O1] [k : Takes O1 Os R] : Takes O (f :: Os) R := ⟨h.perm.trans (k.perm.cons f)⟩
theorem Hp.givT {w0 w : World} {Os O S R : List Fact} (hp : Hp (FrO w0 Os) w0 O S w) (Ps : List Fact) [h : Takes O Ps R] : Giv Os w0 w Ps :=
  haveI : SubO Ps (Ps ++ R) := ⟨List.sublist_append_left ..⟩
  (hp.permO h.perm).giv Ps
/-- The same of what is owned besides. -/
theorem Hp.ownR {F : Nat → Prop} {w0 w : World} {O S Os R : List Fact} (hp : Hp F w0 O S w) (h : Takes O Os R) : ∀ g ∈ R, g.P w ∧ ∀ i, g.fp i → i < w.heap.size ∧ ∀ f ∈ Os, ¬ f.fp i := by
  have h1 := hp.permO h.perm
  exact fun g hg => ⟨(h1.own g (List.mem_append_right _ hg)).1, fun i hi => ⟨((h1.own g (List.mem_append_right _ hg)).2 i hi).1, fun f hf hfi => (List.pairwise_append.1 h1.apart).2.2 f hf g hg i hfi hi⟩⟩
theorem ej_takes {C : Cx} {Q : Exit → Act → World → Prop} {e : Exit} {L : Regs} {O R S : List Fact} (O' : List Fact) [h : Takes O O' R] (k : EJ C Q e L O' S) : EJ C Q e L O S :=
  fun a w hr hp => k a w hr ((hp.permO h.perm).sub (List.sublist_append_left ..) (fun _ h => h))
theorem cj_takes {C : Cx} {cd : Code} {Q : Exit → Act → World → Prop} {L : Regs} {O R S : List Fact} (O' : List Fact) [h : Takes O O' R] (k : CJ C cd Q L O' S) : CJ C cd Q L O S :=
  fun a w hr hp => k a w hr ((hp.permO h.perm).sub (List.sublist_append_left ..) (fun _ h => h))
theorem pl_w3 {C : Cx} {l : List Oper} {Q : Exit → Act → World → Prop} {n : Nat} {his : List Nat} {pend : List Pend} {L : Regs} {O S : List Fact} (i j k : Nat) (ho : openAt l his = [i, j, k]) (h0 : Nat.blt i l.length = true) (hn : his.contains i = false) (h : Fires C l Q n his pend L O S i) (h' : Fires C l Q n his pend L O S j) (h'' : Fires C l Q n his pend L O S k) : Plan C l Q (n + 1) his pend L O S :=
  pl_w [i, j, k] i ho h0 hn (fun x hx => by
    simp only [List.mem_cons, List.mem_nil_iff, or_false] at hx
    rcases hx with rfl | rfl | rfl
    · exact h
    · exact h'
    · exact h'')
theorem ej_retCC {C : Cx} {L : Regs} {O S : List Fact} {fn : Func} {R : Ending → World → Prop} {p q : Tmp} {t u : TypeId} {a b : Addr} {v x : Value} (hD : C.D = []) (h : fn.results = #[.cell p t, .cell q u]) (hx : val L (.tmp p) = some (.pointer (some a))) (hy : Yi C ⟨none, .load t (.tmp p), 0, "", #[], none⟩ L O S v)
    (hx2 : val L (.tmp q) = some (.pointer (some b))) (hy2 : Yi C ⟨none, .load u (.tmp q), 0, "", #[], none⟩ L O S x) (hR : ∀ w, Hp C.F C.w0 O S w → R (.returned (.tuple #[v, x])) w) :
    EJ C (bodyPost C.P fn R) .ret L O S := fun ac w hr hp => ⟨hr.defers.trans hD, _, by
      have h0 := getQ_of_look hr hx
      have h1 := getQ_of_look hr hx2
      simp [results, h, h0, h1, asAddr, yi_loadVar hx hy hr hp, yi_loadVar hx2 hy2 hr hp], hR w hp⟩
theorem ow_none {α : Type} {e : TypeId} {sz c : Nat} {enc : α → List Value} {xs : List α} {w : World} (h : (ow e sz enc none c xs).P w) : xs = [] ∧ c = 0 := by
  have h : w.ownsRow 0 e sz (.slice none xs.length c) xs.length (xs.flatMap enc) := h
  rcases h.2 with ⟨h1, h2⟩ | ⟨g, cap, cur, hv, _⟩
  · injection h1 with _ _ h1
    exact ⟨List.eq_nil_of_length_eq_zero h2, h1⟩
  · injection hv with hv; cases hv
theorem Hp.ownT {F : Nat → Prop} {w0 w : World} {O S : List Fact} (hp : Hp F w0 O S w) {f : Fact} {R : List Fact} (h : Take1 O f R) : f.P w ∧ ∀ b, f.fp b → b < w.heap.size := by
  have := hp.own f (h.perm.mem_iff.2 (List.mem_cons_self ..))
  exact ⟨this.1, fun b hb => (this.2 b hb).1⟩
theorem Hp.ownL {F : Nat → Prop} {w0 w : World} {O S Os R : List Fact} (hp : Hp F w0 O S w) (h : Takes O Os R) : (∀ f ∈ Os, f.P w ∧ ∀ b, f.fp b → b < w.heap.size) ∧ Os.Pairwise (fun f g => ∀ b, f.fp b → ¬ g.fp b) ∧ ∀ g ∈ S, g.P w ∧ ∀ i, g.fp i → i < w.heap.size ∧ ∀ f ∈ Os, ¬ f.fp i := by
  have h1 := hp.permO h.perm
  refine ⟨fun f hf => ⟨(h1.own f (List.mem_append_left _ hf)).1, fun b hb => ((h1.own f (List.mem_append_left _ hf)).2 b hb).1⟩, (List.pairwise_append.1 h1.apart).1, fun g hg => ⟨(h1.shared g hg).1, fun i hi => ⟨(h1.shared g hg).2.1 i hi, fun f hf => (h1.shared g hg).2.2 f (List.mem_append_left _ hf) i hi⟩⟩⟩
section
variable {C : Cx} {Q : Exit → Act → World → Prop} {L : Regs} {O S : List Fact} {ops : Array Oper} {rest : List Oper} {ty : TypeId} {pos : String} {aft : Array Edge} {d : Nat}
/-- A call (of a function, or a function value) that turns several things. -/
theorem oj_callL {X : Type} {x : Operand} {xs : List Operand} {vs : List Value} {ats : Array TypeId} {f : FuncId} {fi ca : Array Value} (enc : X → Value) (Os : List Fact) (Ps : X → List Fact) {R : List Fact} [ht : Takes O Os R]
    (hf : ∀ args w, (callFunc f args).run C.P w = .ok (.enter f args) w) (hx : val L x = some (.func (.func f) fi ca)) (hv : valsO L xs = some vs)
    (hc : ∀ w, Hp C.F C.w0 O S w → Calls C.P f (fi ++ vs.toArray ++ ca) w (fun e w' => ∃ z, e = .returned (enc z) ∧ Giv Os w w' (Ps z))) (hdN : Nat.blt d C.N = true)
    (k : ∀ z, OJ C ops Q rest ((d, enc z) :: L) (Ps z ++ R) S) : OJ C ops Q (⟨some d, .call ⟨.value x, xs.toArray, ats⟩, ty, pos, aft, none⟩ :: rest) L O S := by
  intro a w hr hp
  have hdN' : d < C.N := by simpa [Nat.blt_eq] using hdN
  unfold wpListIn
  rw [if_pos (by simp [Region.wanted])]
  refine ⟨fun _ _ => trivial, ?_⟩
  rw [Oper.semAt_eq _ _ _ (by intro c h; cases h), run_callV hr hf hx hv]
  refine ⟨fun h => (by cases h), callsIn_FR.2 ((hc w hp).mono fun e w' hx => ?_)⟩
  obtain ⟨z, rfl, hg⟩ := hx
  exact k z _ w' (hr.put hdN' _) (hp.takeGiv ht.perm hg)
end

/-! ### A slice that grows, and the one that it was -/
theorem ow_cut {α : Type} {e : TypeId} {sz c : Nat} {enc : α → List Value} {A : Option Addr} {xs ys : List α} {w : World} (he : ∀ x, (enc x).length = sz) (hA : A = none → xs = [] ∧ c = 0) (h : (ow e sz enc A c (xs ++ ys)).P w) : (ow e sz enc A c xs).P w := by
  have h : w.ownsRow 0 e sz (.slice A (xs ++ ys).length c) (xs ++ ys).length ((xs ++ ys).flatMap enc) := h
  show w.ownsRow 0 e sz (.slice A xs.length c) xs.length (xs.flatMap enc)
  refine ⟨by rw [flatMap_len enc sz he], ?_⟩
  rcases h.2 with ⟨h1, h2⟩ | ⟨g, cap, cur, hv, h3, h4, h5, h6, h7, h8⟩
  · injection h1 with h1 h1' h1''
    obtain ⟨e1, e2⟩ := hA h1
    subst e1; subst h1; subst e2; exact .inl ⟨rfl, rfl⟩
  · injection hv with hv hv' hv''
    subst hv; subst hv''
    refine .inr ⟨g, c, cur, rfl, h3, h4, ?_, h6, h7, ?_⟩
    · rw [List.length_append] at h5; omega
    · have e1 : (xs.flatMap enc).length ≤ ((xs ++ ys).flatMap enc).length := by rw [List.flatMap_append, List.length_append]; omega
      have e2 : (cur.toList.take ((xs ++ ys).flatMap enc).length).take (xs.flatMap enc).length = xs.flatMap enc := by rw [flatMap_len enc sz he (xs ++ ys), h8, List.flatMap_append, List.take_left]
      rw [List.take_take, Nat.min_eq_left e1, flatMap_len enc sz he xs] at e2
      exact e2
section
variable {C : Cx} {Q : Exit → Act → World → Prop} {L : Regs} {O S : List Fact} {ops : Array Oper} {rest : List Oper} {ty : TypeId} {pos : String} {aft : Array Edge} {d : Nat}
/-- append of one element that lies in a block of its own, to a slice of one's own: there was room, or there is a new block and the old one is as it was. -/
theorem oj_appendK {α : Type} {t e : TypeId} {sz bytes c c2 b2 : Nat} {s x : Operand} {enc : α → List Value} {A : Option Addr} {xs : List α} {y : α} {O' : List Fact} (hE : ElemIs C.P t e sz bytes) (he : ∀ x, (enc x).length = sz) (hone : ∀ x, ∀ v ∈ enc x, v.oneCell' = true)
    (hs : val L s = some (.slice A xs.length c)) (hx : val L x = some (.slice (some ⟨b2, 0, none⟩) 1 c2)) (hrd : Reads C O S sz enc (some ⟨b2, 0, none⟩) [y])
    (hlen : xs.length + 1 ≤ maxLen) (hby : (xs.length + 1) * bytes ≤ 140737488355328) (hdN : Nat.blt d C.N = true)
    [hu : UpdOw O A e sz enc c xs (ow e sz enc A c (xs ++ [y])) O']
    (k1 : xs.length + 1 ≤ c → OJ C ops Q rest ((d, .slice A (xs ++ [y]).length c) :: L) O' S)
    (k2 : ∀ A' c', OJ C ops Q rest ((d, .slice A' (xs ++ [y]).length c') :: L) (ow e sz enc A' c' (xs ++ [y]) :: O) S) : OJ C ops Q (⟨some d, .call ⟨.builtin .append, #[s, x], #[t, t]⟩, ty, pos, aft, none⟩ :: rest) L O S := by
  intro a w hr hp
  have hdN' : d < C.N := by simpa [Nat.blt_eq] using hdN
  unfold wpListIn
  rw [if_pos (by simp [Region.wanted])]
  refine ⟨fun _ _ => trivial, ?_⟩
  rw [Oper.semAt_eq _ _ _ (by intro c h; cases h)]
  obtain ⟨i, z, hut, hi, hz, hsz, hbt, hzs, hpos⟩ := hE.ex
  have hown : w.ownsRow 0 e sz (.slice A xs.length c) xs.length (xs.flatMap enc) := (hp.own _ hu.rep.mem).1
  obtain ⟨ad, had, hc⟩ := hrd w hp (by simp)
  injection had with had
  subst had
  have hnl : (enc y).length = 1 * sz := by rw [he, Nat.one_mul]
  have hnews : ∀ j u, (enc y)[j]? = some u → w.cell? ((⟨b2, 0, none⟩ : Addr).add j) = some u := by
    intro j u hj
    have := hc 0 y j u rfl hj
    simpa using this
  have h1 : ∀ u ∈ enc y, u.oneCell' = true := hone y
  have hfl : (xs ++ [y]).flatMap enc = xs.flatMap enc ++ enc y := by rw [List.flatMap_append]; simp
  obtain ⟨v', w', hrun, hown', hgb, _, hblk⟩ := run_append_own_at (P := C.P) w 0 t ty e i z sz bytes hut hi hz hsz hbt hzs hpos _ _ _ hown ⟨b2, 0, none⟩ 1 c2 (enc y) hnl hnews h1 hlen hby (Nat.zero_le _)
  have hrun' : (execOp a.eval ⟨some d, .call ⟨.builtin .append, #[s, x], #[t, t]⟩, ty, pos, aft, none⟩).run C.P w = .ok (.value v') w' := by
    simp [execOp, resolve, invoke, builtin, hr.val hs, hr.val hx, hrun]
  rw [hrun']
  show wpListIn _ _ _ _ _ _ _ _
  have hlt := hown'.lt
  -- a new block
  have new : w.grownBy w' none → v'.ownBlock = some w.heap.size → wpListIn (FR C.ro) 0 C.P ops Q rest (a.put (some d) v') w' := by
    intro hg hv
    have hform : ∃ A' c', v' = .slice A' (xs ++ [y]).length c' := by
      rcases hown'.2 with ⟨h2, h3⟩ | ⟨g, cap, cur, hv, _⟩
      · omega
      · exact ⟨_, _, by rw [hv, List.length_append]; rfl⟩
    obtain ⟨A', c', rfl⟩ := hform
    refine k2 A' c' _ w' (hr.put hdN' _) (hp.addO ⟨hg.os, hg.tape, hg.output, hg.size, fun b hb => hg.block b hb (by simp)⟩ _ ?_ (fun b hb => ?_))
    · show w'.ownsRow 0 e sz _ _ _
      rw [hfl, List.length_append]; rw [List.length_append] at hown'; exact hown'
    · have hb' : (Value.slice A' (xs ++ [y]).length c').ownBlock = some b := hb
      rw [hv] at hb'; injection hb' with hb'
      exact ⟨by omega, (hlt b (hv.trans (congrArg some hb'))).2⟩
  rcases hown.2 with ⟨h2, h3⟩ | ⟨g, cap, cur, hv, _, h4, h5, h6, h7, _⟩
  · injection h2 with h2 _ h2''
    subst h2
    refine new ?_ ?_
    · exact ⟨hgb.os, hgb.tape, hgb.output, hgb.size, fun b hb _ => hgb.block b hb (by simp [Value.ownBlock])⟩
    · rcases hblk with h | h
      · rcases hown'.2 with ⟨h8, h9⟩ | ⟨g, cap, cur, hv, _⟩
        · omega
        · rw [hv] at h; simp [Value.ownBlock] at h
      · exact h
  · injection hv with hv _ hv''
    subst hv; subst hv''
    by_cases hroom : xs.length + 1 ≤ c
    · have hfit : xs.length * i.size + (enc y).length ≤ cur.size := by rw [hnl, hsz, h7, ← Nat.add_mul]; exact Nat.mul_le_mul_right _ hroom
      have hr2 := run_append_room (P := C.P) w t ty e i hut hi g xs.length c cur h4 ⟨b2, 0, none⟩ 1 c2 (enc y) (by rw [hsz]; exact hnl) hnews h1 hroom hfit
      rw [hr2] at hrun
      injection hrun with hv' hw'
      subst hv'
      have := k1 hroom (a.put (some d) (.slice (some ⟨g, 0, none⟩) (xs ++ [y]).length c)) w' (hr.put hdN' _) (hp.write hu.rep hgb.os hgb.tape hgb.output hgb.size (fun b hb hnb => hgb.block b hb (fun e => hnb e.symm)) (by
        show w'.ownsRow 0 e sz _ _ _
        rw [hfl, List.length_append]; exact hown') (fun b hb => ⟨(hlt b hb).2, .inl hb⟩))
      rw [List.length_append] at this
      exact this
    · have holds : ∀ j u, (xs.flatMap enc)[j]? = some u → w.cell? ((⟨g, 0, none⟩ : Addr).add j) = some u := hown.cells (g := g) rfl
      have hr2 := run_append_grow (P := C.P) w t ty e i z hut hi hz ⟨g, 0, none⟩ xs.length c (xs.flatMap enc) (by rw [hsz]; exact hown.1) holds ⟨b2, 0, none⟩ 1 c2 (enc y) (by rw [hsz]; exact hnl) hnews (by omega) (by simp only [maxLen] at hlen; omega) (growslice_fits (by omega) (by rw [hbt]; exact hby))
      rw [hr2] at hrun
      injection hrun with hv' hw'
      refine new ?_ (by rw [← hv']; rfl)
      rw [← hw']
      exact ⟨rfl, rfl, rfl, by simp, fun b hb _ => Go.heap_alloc_old w.drew _ hb⟩
theorem ej_cutO {α : Type} {en : Exit} {e : TypeId} {sz c : Nat} {enc : α → List Value} {A : Option Addr} {xs ys : List α} {O' : List Fact} (he : ∀ x, (enc x).length = sz) (hA : A = none → xs = [] ∧ c = 0) [hu : UpdOw O A e sz enc c (xs ++ ys) (ow e sz enc A c xs) O'] (k : EJ C Q en L O' S) : EJ C Q en L O S :=
  fun a w hr hp => k a w hr (hp.write hu.rep rfl rfl rfl (Nat.le_refl _) (fun _ _ _ => rfl) (ow_cut he hA (hp.own _ hu.rep.mem).1) (fun b hb => by
    have hb' : (ow e sz enc A c (xs ++ ys)).fp b := by
      have h1 : (Value.slice A xs.length c).ownBlock = some b := hb
      show (Value.slice A (xs ++ ys).length c).ownBlock = some b
      cases A with
      | none => simp [Value.ownBlock] at h1
      | some a => exact h1
    exact ⟨((hp.own _ hu.rep.mem).2 b hb').1, .inl hb'⟩))
end

/-! ### Maps with stamps, and loops over them -/
section
variable {K V : Type} (ek : K → Value) (ev : V → Value)
def StampOk (es : List MapEntry) (c : Nat) : Prop := (∀ x ∈ es, x.born < c) ∧ (es.map (·.born)).Nodup
/-- A map of one's own, ready to be ranged over. -/
def mz (b : Nat) (l : List (K × V)) : Fact where
  fp := fun i => i = b
  P := fun w => ∃ (es : Array MapEntry) (clock : Nat), w.heap[b]? = some (.map es clock) ∧ entOk ek ev es.toList l ∧ StampOk es.toList clock
  stab := fun h ⟨es, c, h1, h2⟩ => ⟨es, c, (h b rfl).trans h1, h2⟩
/-- A map under a loop: what is still to come, and the entry at hand. -/
def mit (b r : Nat) (left : List (K × V)) (cur : Option (K × V)) : Fact where
  fp := fun i => i = b ∨ i = r
  P := fun w => b ≠ r ∧ ∃ (es : Array MapEntry) (clock since : Nat) (seen : Array Nat) (c0 : Nat), w.heap[b]? = some (.map es clock) ∧ w.heap[r]? = some (.mapIter (some b) since seen c0) ∧ (es.toList.map (fun x : MapEntry => x.born)).Nodup ∧ (∀ x ∈ es.toList, x.born < since) ∧ since ≤ c0 ∧ since ≤ clock ∧
    entOk ek ev (leftOf es seen).toList left ∧ ∀ p, cur = some p → c0 = clock ∧ ∃ e ∈ es.toList, (∃ s : Array Nat, seen = s.push e.born) ∧ e.key = ek p.1 ∧ e.val = ev p.2
  stab := fun h ⟨hne, es, c, si, se, c0, h1, h2, h3⟩ => ⟨hne, es, c, si, se, c0, (h b (.inl rfl)).trans h1, (h r (.inr rfl)).trans h2, h3⟩
end
section
variable {K V : Type} {C : Cx} {Q : Exit → Act → World → Prop} {L : Regs} {O S : List Fact} {ops : Array Oper} {rest : List Oper} {ty : TypeId} {pos : String} {aft : Array Edge} {d : Nat} {t : TypeId}
theorem oj_makeMapZ (ek : K → Value) (ev : V → Value) (hdN : Nat.blt d C.N = true) (k : ∀ b, OJ C ops Q rest ((d, .map (some b)) :: L) (mz ek ev b [] :: O) S) : OJ C ops Q (⟨some d, .makeMap t none, ty, pos, aft, none⟩ :: rest) L O S := by
  intro a w hr hp
  have hdN' : d < C.N := by simpa [Nat.blt_eq] using hdN
  unfold wpListIn
  rw [if_pos (by simp [Region.wanted])]
  refine ⟨fun _ _ => trivial, ?_⟩
  rw [Oper.semAt_eq _ _ _ (by intro c h; cases h)]
  have hrun : (execOp a.eval ⟨some d, .makeMap t none, ty, pos, aft, none⟩).run C.P w = .ok (.value (.map (some w.heap.size))) (w.alloc (.map #[] 0)) := by
    simp [execOp, Instr.makeMap]
  rw [hrun]
  show wpListIn _ _ _ _ _ _ _ _
  refine k w.heap.size _ _ (hr.put hdN' _) ?_
  refine hp.addO ((Below.refl _ _).alloc (Nat.le_refl _) _) _ ⟨#[], 0, heap_alloc_new w _, rfl, by simp [StampOk]⟩ (fun b hb => ?_)
  have hb' : b = w.heap.size := hb
  subst hb'
  simp
end
section
variable {K V : Type} {ek : K → Value} {ev : V → Value} {C : Cx} {Q : Exit → Act → World → Prop} {L : Regs} {O S : List Fact} {ops : Array Oper} {rest : List Oper} {ty : TypeId} {pos : String} {aft : Array Edge} {d : Nat} {dst : Option Tmp} {gu : Option (Nat × Bool)} {t kt et : TypeId} {x y z : Operand} {b : Nat} {l : List (K × V)}
class HasMz (O : List Fact) (b : Nat) (ek : outParam (K → Value)) (ev : outParam (V → Value)) (l : outParam (List (K × V))) : Prop where
  mem : mz ek ev b l ∈ O
instance (priority := 900) HasMz.tail (f : Fact) (O : List Fact) (b : Nat) (ek : K → Value) (ev : V → Value) (l : List (K × V)) [h : HasMz O b ek ev l] : HasMz (f :: O) b ek ev l := ⟨List.mem_cons_of_mem _ h.mem⟩
instance (priority := 1000) HasMz.head (O : List Fact) (b : Nat) (ek : K → Value) (ev : V → Value) (l : List (K × V)) : HasMz (mz ek ev b l :: O) b ek ev l := ⟨List.mem_cons_self ..⟩
class UpdMz (O : List Fact) (b : Nat) (ek : outParam (K → Value)) (ev : outParam (V → Value)) (l : outParam (List (K × V))) (f' : Fact) (O' : outParam (List Fact)) : Prop where
  rep : Rep O (mz ek ev b l) f' O'
instance (priority := 900) UpdMz.tail (f : Fact) (O O' : List Fact) (b : Nat) (ek : K → Value) (ev : V → Value) (l : List (K × V)) (f' : Fact) [h : UpdMz O b ek ev l f' O'] : UpdMz (f :: O) b ek ev l f' (f :: O') := ⟨.tail _ _ _ _ _ h.rep⟩
instance (priority := 1000) UpdMz.head (O : List Fact) (b : Nat) (ek : K → Value) (ev : V → Value) (l : List (K × V)) (f' : Fact) : UpdMz (mz ek ev b l :: O) b ek ev l f' (f' :: O) := ⟨.head _ _ _⟩
theorem y_lookupZ [DecidableEq K] {kd : TypeDesc} {kk : K} (d0 : V) [hk : KeyE ek kd] [h : HasMz O b ek ev l] (ht : C.P.underlying t = some (.map kt et)) (hkt : C.P.underlying kt = some kd) (hz : ∀ w, (zeroValue et).run C.P w = .ok (ev d0) w)
    (hx : val L x = some (.map (some b))) (hy : val L y = some (ek kk)) : Yi C ⟨dst, .lookup t x y true, ty, pos, aft, gu⟩ L O S (.tuple #[ev ((getL l kk).getD d0), .bool (getL l kk).isSome]) :=
  yi_val (by intro c h; cases h) fun a w hr hp => by
    obtain ⟨es, clock, hb, he, _⟩ := (hp.own _ h.mem).1
    have hf := findNow_eq (ek := ek) (ev := ev) es.toList l kk 0 he
    have hg := findL_get l kk 0
    simp only [execOp, hr.val hx, hr.val hy, Instr.lookup, Sem.run_bind, run_underlying ht, Result.andThen_ok, run_getObj hb, Sem.run_pure, hk.check C.P kt _ w kk hkt, Instr.findKey, run_underlying hkt, hf]
    cases hfl : findL l kk 0 with
    | none => rw [hfl] at hg; simp only [Option.map_none] at hg; simp [← hg, hz]
    | some p => rw [hfl] at hg; simp only [Option.map_some] at hg; simp [← hg]
theorem oj_mapUpdateZ [DecidableEq K] {kd : TypeDesc} {kk : K} {v : V} {O' : List Fact} [hk : KeyE ek kd] [hu : UpdMz O b ek ev l (mz ek ev b (putL l kk v)) O'] (ht : C.P.underlying t = some (.map kt et)) (hkt : C.P.underlying kt = some kd)
    (hx : val L x = some (.map (some b))) (hy : val L y = some (ek kk)) (hz : val L z = some (ev v)) (k : OJ C ops Q rest L O' S) : OJ C ops Q (⟨none, .mapUpdate t x y z, ty, pos, aft, none⟩ :: rest) L O S := by
  intro a w hr hp
  unfold wpListIn
  rw [if_pos (by simp [Region.wanted])]
  refine ⟨fun _ _ => trivial, ?_⟩
  rw [Oper.semAt_eq _ _ _ (by intro c h; cases h)]
  have hown := hp.own _ hu.rep.mem
  obtain ⟨es, clock, hb, he, hs1, hs2⟩ := hown.1
  have hlt : b < w.heap.size := (hown.2 b rfl).1
  have hf := findNow_eq (ek := ek) (ev := ev) es.toList l kk 0 he
  have key : ∃ es' clock', (execOp a.eval ⟨none, .mapUpdate t x y z, ty, pos, aft, none⟩).run C.P w = .ok .skip { w with heap := w.heap.setIfInBounds b (.map es' clock') } ∧ entOk ek ev es'.toList (putL l kk v) ∧ StampOk es'.toList clock' := by
    cases hfl : findL l kk 0 with
    | none =>
      rw [hfl] at hf
      refine ⟨es.push ⟨ek kk, ev v, clock⟩, clock + 1, ?_, ?_, ?_⟩
      · simp only [execOp, hr.val hx, hr.val hy, hr.val hz, Instr.mapUpdate, Sem.run_bind, run_underlying ht, Result.andThen_ok, run_getObj hb, hk.check C.P kt _ w kk hkt, Instr.findKey, run_underlying hkt, hf, Option.map_none, Sem.run_pure, MapKept.run_setObj_map _ hb]
      · unfold entOk at he ⊢
        rw [findL_none l kk 0 hfl, Array.toList_push, List.map_append, he, List.map_append]; rfl
      · rw [Array.toList_push]
        refine ⟨fun e he => ?_, ?_⟩
        · rcases List.mem_append.1 he with h | h
          · have := hs1 e h; omega
          · simp at h; rw [h]; simp
        · rw [List.map_append]
          refine List.nodup_append.2 ⟨hs2, by simp, fun p hp q hq => ?_⟩
          obtain ⟨e, he, rfl⟩ := List.mem_map.1 hp
          have := hs1 e he
          simp at hq
          omega
    | some p =>
      obtain ⟨i, u⟩ := p
      rw [hfl] at hf
      obtain ⟨h1, h2⟩ := ent_put (v := v) he hfl
      have hborn : (es.modify i fun e => { e with key := ek kk, val := ev v }).toList.map (·.born) = es.toList.map (·.born) := by
        rw [Array.toList_modify]
        apply List.ext_getElem?
        intro j
        rw [List.getElem?_map, List.getElem?_map, List.getElem?_modify]
        cases es.toList[j]? with
        | none => rfl
        | some e => simp; split <;> rfl
      refine ⟨_, clock, ?_, h2, ?_⟩
      · simp only [execOp, hr.val hx, hr.val hy, hr.val hz, Instr.mapUpdate, Sem.run_bind, run_underlying ht, Result.andThen_ok, run_getObj hb, hk.check C.P kt _ w kk hkt, Instr.findKey, run_underlying hkt, hf, Option.map_some, Sem.run_pure, h1, Instr.keyThatStays, hk.bits, if_true, MapKept.run_setObj_map _ hb]
      · refine ⟨fun e he => ?_, by rw [hborn]; exact hs2⟩
        have : e.born ∈ es.toList.map (·.born) := by rw [← hborn]; exact List.mem_map.2 ⟨e, he, rfl⟩
        obtain ⟨e', he', h⟩ := List.mem_map.1 this
        rw [← h]; exact hs1 e' he'
  obtain ⟨es', clock', hrun, he', hst⟩ := key
  rw [hrun]
  show wpListIn _ _ _ _ _ _ _ _
  refine k _ _ hr ?_
  refine hp.write hu.rep rfl rfl rfl (by simp) (fun c _ hc => ?_) ⟨es', clock', ?_, he', hst⟩ (fun i hi => ?_)
  · have hne : b ≠ c := fun e => hc e.symm
    simp [hne]
  · simp [hlt]
  · have hi' : i = b := hi
    subst hi'
    exact ⟨by simpa using hlt, .inl rfl⟩
/-- 'range m' -/
theorem oj_rangeZ (ht : C.P.underlying t = some (.map kt et)) (hx : val L x = some (.map (some b))) (hdN : Nat.blt d C.N = true) (k : ∀ r, OJ C ops Q rest ((d, .pointer (some ⟨r, 0, none⟩)) :: L) (mit ek ev b r l none :: O) S) :
    OJ C ops Q (⟨some d, .range t x, ty, pos, aft, none⟩ :: rest) L (mz ek ev b l :: O) S := by
  intro a w hr hp
  have hdN' : d < C.N := by simpa [Nat.blt_eq] using hdN
  unfold wpListIn
  rw [if_pos (by simp [Region.wanted])]
  refine ⟨fun _ _ => trivial, ?_⟩
  rw [Oper.semAt_eq _ _ _ (by intro c h; cases h)]
  have hown := hp.own _ (List.mem_cons_self ..)
  obtain ⟨es, clock, hb, he, hs1, hs2⟩ := hown.1
  have hlt : b < w.heap.size := (hown.2 b rfl).1
  have hrun := run_range_map w t kt et b es clock ht hb
  have hrun' : (execOp a.eval ⟨some d, .range t x, ty, pos, aft, none⟩).run C.P w = .ok (.value (.pointer (some ⟨w.heap.size, 0, none⟩))) (w.alloc (.mapIter (some b) clock #[] clock)) := by
    simp only [execOp, hr.val hx, Sem.run_bind, hrun, Result.andThen_ok, Sem.run_pure]
  rw [hrun']
  show wpListIn _ _ _ _ _ _ _ _
  refine k w.heap.size _ _ (hr.put hdN' _) ?_
  have hg : Grow w (w.alloc (.mapIter (some b) clock #[] clock)) := (Below.refl _ _).alloc (Nat.le_refl _) _
  refine hp.write (.head _ _ _) hg.os hg.tape hg.output hg.size (fun c hc _ => hg.block c hc) ⟨by omega, es, clock, clock, #[], clock, (hg.block b hlt).trans hb, heap_alloc_new w _, hs2, hs1, Nat.le_refl _, Nat.le_refl _, ?_, fun p h => (by cases h)⟩ (fun i hi => ?_)
  · have : leftOf es #[] = es := by unfold leftOf; simp
    rw [this]; exact he
  · rcases hi with hi | hi
    · subst hi; exact ⟨Nat.lt_of_lt_of_le hlt hg.size, .inl rfl⟩
    · subst hi; exact ⟨by simp, .inr (Nat.le_refl _)⟩
/-- What the loop's step hands over: nothing, or the i-th of what is still to come. -/
def nxV (ek : K → Value) (ev : V → Value) : Option (Nat × (K × V)) → Value
  | none => .tuple #[.bool false]
  | some p => .tuple #[.bool true, ek p.2.1, ev p.2.2]
def nxL (left : List (K × V)) : Option (Nat × (K × V)) → List (K × V)
  | none => left
  | some p => left.eraseIdx p.1
def nxOk (left : List (K × V)) : Option (Nat × (K × V)) → Prop
  | none => left = []
  | some p => left[p.1]? = some p.2
def nxC (cur : Option (K × V)) : Option (Nat × (K × V)) → Option (K × V)
  | none => cur
  | some p => some p.2
theorem left_push {es : Array MapEntry} {seen : Array Nat} {e : MapEntry} {i : Nat} (hn : (es.toList.map (·.born)).Nodup) (hi : (leftOf es seen).toList[i]? = some e) : (leftOf es (seen.push e.born)).toList = (leftOf es seen).toList.eraseIdx i := by
  unfold leftOf at *
  rw [Array.toList_filter] at hi ⊢
  rw [Array.toList_filter]
  generalize es.toList = l at *
  induction l generalizing i with
  | nil => simp at hi
  | cons x l ih =>
    rw [List.map_cons, List.nodup_cons] at hn
    rw [List.filter_cons, List.filter_cons (p := fun e : MapEntry => !seen.contains e.born)]
    rw [List.filter_cons] at hi
    by_cases hx : seen.contains x.born = true
    · have hx2 : (seen.push e.born).contains x.born = true := by
        rw [Array.contains_iff_mem] at hx ⊢; exact Array.mem_push.2 (.inl hx)
      rw [hx] at hi ⊢
      rw [hx2]
      exact ih hn.2 hi
    · have hx' : seen.contains x.born = false := by simpa using hx
      rw [hx'] at hi ⊢
      simp only [Bool.not_false, if_true] at hi ⊢
      cases i with
      | zero =>
        simp at hi
        subst hi
        have hx2 : (seen.push x.born).contains x.born = true := by rw [Array.contains_iff_mem]; exact Array.mem_push.2 (.inr rfl)
        rw [hx2]
        simp only [Bool.not_true, Bool.false_eq_true, if_false, List.eraseIdx_cons_zero]
        refine List.filter_congr fun y hy => ?_
        have hne : y.born ≠ x.born := fun h => hn.1 (List.mem_map.2 ⟨y, hy, h⟩)
        congr 1
        rw [Bool.eq_iff_iff, Array.contains_iff_mem, Array.contains_iff_mem, Array.mem_push]
        exact ⟨fun h => h.resolve_right hne, .inl⟩
      | succ i =>
        simp at hi
        have hem : e ∈ l := by
          have := List.mem_of_getElem? hi
          exact (List.mem_filter.1 this).1
        have hne : x.born ≠ e.born := fun h => hn.1 (List.mem_map.2 ⟨e, hem, h.symm⟩)
        have hx2 : (seen.push e.born).contains x.born = false := by
          cases hc : (seen.push e.born).contains x.born with
          | false => rfl
          | true =>
            rw [Array.contains_iff_mem, Array.mem_push] at hc
            rcases hc with hc | hc
            · exact absurd (Array.contains_iff_mem.2 hc) hx
            · exact absurd hc hne
        rw [hx2]
        simp only [Bool.not_false, if_true, List.eraseIdx_cons_succ]
        rw [ih hn.2 (by simpa using hi)]
theorem map_eraseIdx' {α β : Type} (f : α → β) : ∀ (l : List α) (i : Nat), (l.eraseIdx i).map f = (l.map f).eraseIdx i
  | [], _ => rfl
  | _ :: _, 0 => rfl
  | x :: l, i + 1 => by rw [List.eraseIdx_cons_succ, List.map_cons, List.map_cons, List.eraseIdx_cons_succ, map_eraseIdx' f l i]
theorem oj_nextZ {r : Nat} {left : List (K × V)} {cur : Option (K × V)} (hx : val L x = some (.pointer (some ⟨r, 0, none⟩))) (hdN : Nat.blt d C.N = true)
    (k : ∀ p, nxOk left p → OJ C ops Q rest ((d, nxV ek ev p) :: L) (mit ek ev b r (nxL left p) (nxC cur p) :: O) S) : OJ C ops Q (⟨some d, .next x false, ty, pos, aft, none⟩ :: rest) L (mit ek ev b r left cur :: O) S := by
  intro a w hr hp
  have hdN' : d < C.N := by simpa [Nat.blt_eq] using hdN
  unfold wpListIn
  rw [if_pos (by simp [Region.wanted])]
  refine ⟨fun _ _ => trivial, ?_⟩
  rw [Oper.semAt_eq _ _ _ (by intro c h; cases h)]
  have hown := hp.own _ (List.mem_cons_self ..)
  obtain ⟨hne, es, clock, since, seen, c0, hb, hi, hnd, hold, hsc, hsk, hent, hcur⟩ := hown.1
  rcases run_next_at (P := C.P) w ty r b since c0 seen es clock hi hb hold hsc with ⟨h0, hrun⟩ | ⟨e, he, w1, hal, hrun⟩
  · have hrun' : (execOp a.eval ⟨some d, .next x false, ty, pos, aft, none⟩).run C.P w = .ok (.value (.tuple #[.bool false])) w := by
      simp only [execOp, hr.val hx, Sem.run_bind, hrun, Result.andThen_ok, Sem.run_pure]
    rw [hrun']
    show wpListIn _ _ _ _ _ _ _ _
    refine k none ?_ _ _ (hr.put hdN' _) hp
    have hz : (leftOf es seen).toList = [] := by rw [← Array.length_toList] at h0; exact List.eq_nil_of_length_eq_zero h0
    unfold entOk at hent
    rw [hz] at hent
    show left = []
    simpa using hent.symm
  · have hrun' : (execOp a.eval ⟨some d, .next x false, ty, pos, aft, none⟩).run C.P w = .ok (.value (.tuple #[.bool true, e.key, e.val])) (ChangeMaps.setBlock w1 r (.mapIter (some b) since (seen.push e.born) clock)) := by
      simp only [execOp, hr.val hx, Sem.run_bind, hrun, Result.andThen_ok, Sem.run_pure]
    rw [hrun']
    show wpListIn _ _ _ _ _ _ _ _
    obtain ⟨i, hi2⟩ := List.mem_iff_getElem?.1 he
    have hlen := congrArg (fun l => l[i]?) hent
    simp only [List.getElem?_map, hi2, Option.map_some] at hlen
    cases hl : left[i]? with
    | none => rw [hl] at hlen; cases hlen
    | some p =>
      rw [hl] at hlen
      simp only [Option.map_some, Option.some.injEq, Prod.mk.injEq] at hlen
      have hk := k (some (i, p)) hl (a.put (some d) (.tuple #[.bool true, ek p.1, ev p.2])) (ChangeMaps.setBlock w1 r (.mapIter (some b) since (seen.push e.born) clock)) (hr.put hdN' _)
      rw [hlen.1, hlen.2]
      refine hk ?_
      have hw1 : w1.os = w.os ∧ w1.tape = w.tape ∧ w1.output = w.output ∧ w1.heap = w.heap := by rcases hal with rfl | rfl <;> exact ⟨rfl, rfl, rfl, rfl⟩
      have hrlt : r < w.heap.size := (hown.2 r (.inr rfl)).1
      have hem : e ∈ es.toList := by
        have := List.mem_of_getElem? hi2
        unfold leftOf at this
        rw [Array.toList_filter] at this
        exact (List.mem_filter.1 this).1
      refine hp.write (.head _ _ _) hw1.1 hw1.2.1 hw1.2.2.1 (by simp [ChangeMaps.setBlock, hw1.2.2.2]) (fun c _ hc => ?_) ⟨hne, es, clock, since, seen.push e.born, clock, ?_, ?_, hnd, hold, hsk, hsk, ?_, ?_⟩ (fun j hj => ?_)
      · have : r ≠ c := fun e => hc (.inr e.symm)
        simp [ChangeMaps.setBlock, hw1.2.2.2, this]
      · show (w1.heap.setIfInBounds r _)[b]? = _
        rw [hw1.2.2.2, Array.getElem?_setIfInBounds, if_neg (fun h => hne (Eq.symm h))]; exact hb
      · simp [ChangeMaps.setBlock, hw1.2.2.2, hrlt]
      · unfold entOk at hent ⊢
        rw [left_push hnd hi2, map_eraseIdx', hent, ← map_eraseIdx']; rfl
      · intro q hq
        cases hq
        exact ⟨rfl, e, hem, ⟨seen, rfl⟩, hlen.1, hlen.2⟩
      · refine ⟨?_, .inl hj⟩
        have := (hown.2 j hj).1
        simpa [ChangeMaps.setBlock, hw1.2.2.2] using this
theorem y_extractNx {p : Option (Nat × (K × V))} {xx : Operand} (hx : val L xx = some (nxV ek ev p)) : Yi C ⟨dst, .extract xx 0, ty, pos, aft, gu⟩ L O S (.bool p.isSome) := by
  cases p with
  | none => exact y_extract hx rfl
  | some q => exact y_extract hx rfl
theorem nx_some {α : Type} {p : Option α} (h : p.isSome = true) : ∃ q, p = some q := Option.isSome_iff_exists.1 h
theorem nx_none {α : Type} {p : Option α} (h : p.isSome = false) : p = none := by cases p <;> simp_all
class HasMit (O : List Fact) (r : Nat) (ek : outParam (K → Value)) (ev : outParam (V → Value)) (b : outParam Nat) (left : outParam (List (K × V))) (cur : outParam (Option (K × V))) : Prop where
  mem : mit ek ev b r left cur ∈ O
instance (priority := 900) HasMit.tail (f : Fact) (O : List Fact) (r : Nat) (ek : K → Value) (ev : V → Value) (b : Nat) (left : List (K × V)) (cur : Option (K × V)) [h : HasMit O r ek ev b left cur] : HasMit (f :: O) r ek ev b left cur := ⟨List.mem_cons_of_mem _ h.mem⟩
instance (priority := 1000) HasMit.head (O : List Fact) (r : Nat) (ek : K → Value) (ev : V → Value) (b : Nat) (left : List (K × V)) (cur : Option (K × V)) : HasMit (mit ek ev b r left cur :: O) r ek ev b left cur := ⟨List.mem_cons_self ..⟩
theorem y_entryZ {r : Nat} {left : List (K × V)} {cur : Option (K × V)} {p : K × V} [h : HasMit O r ek ev b left cur] (hx : val L x = some (.pointer (some ⟨r, 0, none⟩))) (hc : cur = some p) : Yi C ⟨dst, .entry x, ty, pos, aft, gu⟩ L O S (.tuple #[ek p.1, ev p.2]) :=
  yi_val (by intro c h; cases h) fun a w hr hp => by
    obtain ⟨hne, es, clock, since, seen, c0, hb, hi, hnd, hold, hsc, hsk, hent, hcur⟩ := (hp.own _ h.mem).1
    obtain ⟨hcc, e, he, ⟨s, rfl⟩, h1, h2⟩ := hcur p hc
    subst hcc
    have hrun := run_entry_at (P := C.P) w r b since s es c0 e hi hb he hnd
    simp only [execOp, hr.val hx, Sem.run_bind, hrun, Result.andThen_ok, Sem.run_pure, h1, h2]
end
theorem y_toU {C : Cx} {L : Regs} {O S : List Fact} {dst : Option Tmp} {ty t t' : TypeId} {pos : String} {aft : Array Edge} {gu : Option (Nat × Bool)} {x : Operand} {m : Nat} {d : TypeDesc} (hs : C.P.underlying t = some d) (hd : C.P.underlying t' = some (.int .u64)) (hx : val L x = some (.int .i64 (m : Nat))) (hm : m < 18446744073709551616) : Yi C ⟨dst, .convert t t' x, ty, pos, aft, gu⟩ L O S (.int .u64 (m : Nat)) := by
  have h := y_conv (C := C) (O := O) (S := S) (dst := dst) (ty := ty) (pos := pos) (aft := aft) (gu := gu) hs hd hx
  rwa [show IntKind.u64.wrap (m : Int) = (m : Int) by simp [IntKind.wrap, IntKind.signed, IntKind.bits]; omega] at h
end Go.Sx
namespace Go.Sx
open Go.RowKit
theorem y_eqlNil {C : Cx} {L : Regs} {O S : List Fact} {dst : Option Tmp} {ty : TypeId} {pos : String} {aft : Array Edge} {gu : Option (Nat × Bool)} {t t' : TypeId} {x y : Operand} {e : TypeId} {A : Option Addr} {n c : Nat} (ht : C.P.underlying t = some (.slice e)) (hx : val L x = some (.slice A n c)) (hy : val L y = some (.slice none 0 0)) :
    Yi C ⟨dst, .binOp .eql t x y t', ty, pos, aft, gu⟩ L O S (.bool A.isNone) :=
  yi_val (by intro c h; cases h) fun a w hr _ => by
    have h := run_equal_slice_nil w t e A n c ht
    have h2 : (binOp .eql t (.slice A n c) (.slice none 0 0)).run C.P w = .ok (.bool A.isNone) w := by
      simp only [binOp]
      simp [h]
    simp [execOp, hr.val hx, hr.val hy, eqGuard, h2]
end Go.Sx
namespace Go.Sx
open Go.RowKit

section
variable {C : Cx} {Q : Exit → Act → World → Prop} {L : Regs} {O S : List Fact} {ops : Array Oper} {rest : List Oper} {ty : TypeId} {pos : String} {aft : Array Edge} {dst : Option Tmp} {gu : Option (Nat × Bool)} {t : TypeId} {x y : Operand}
end
end Go.Sx
namespace Go.Sx
open Go.RowKit

section
variable {C : Cx} {Q : Exit → Act → World → Prop} {L : Regs} {O S : List Fact} {ops : Array Oper} {rest : List Oper} {ty : TypeId} {pos : String} {aft : Array Edge} {dst : Option Tmp} {gu : Option (Nat × Bool)} {t t' : TypeId} {x y : Operand}
/-! ### Bits -/
theorem nat_bv (m : Nat) (hm : m ≤ 9223372036854775807) : (BitVec.ofInt 64 (m : Int)).toNat = m := by rw [BitVec.toNat_ofInt]; omega
theorem or_nat (m n : Nat) (hm : m < 2 ^ 62) (hn : n < 2 ^ 62) : IntKind.i64.wrap ((BitVec.ofInt 64 (m : Int) ||| BitVec.ofInt 64 (n : Int)).toNat : Int) = ((m ||| n : Nat) : Int) := by
  have h : (BitVec.ofInt 64 (m : Int) ||| BitVec.ofInt 64 (n : Int)).toNat = m ||| n := by
    rw [BitVec.toNat_or, nat_bv m (by omega), nat_bv n (by omega)]
  have hlt : m ||| n < 2 ^ 62 := Nat.or_lt_two_pow hm hn
  rw [h]; exact IntWalk.i64_in _ (by omega)
theorem y_orN {m n : Nat} (hx : val L x = some (.int .i64 (m : Nat))) (hy : val L y = some (.int .i64 (n : Nat))) (hm : m < 2 ^ 62) (hn : n < 2 ^ 62) : Yi C ⟨dst, .binOp .or t x y t', ty, pos, aft, gu⟩ L O S (.int .i64 ((m ||| n : Nat) : Int)) :=
  yi_val (by intro c h; cases h) fun a w hr _ => by
    have e : binOp .or t (.int .i64 (m : Int)) (.int .i64 (n : Int)) = pure (.int .i64 ((m ||| n : Nat) : Int)) := by
      unfold binOp
      simp only [ne_eq, not_true_eq_false, if_false]
      exact congrArg (fun z => (pure (Value.int .i64 z) : Sem Value)) (or_nat m n hm hn)
    simp [execOp, hr.val hx, hr.val hy, eqGuard, e]
theorem andNot_nat (m n : Nat) (hm : m ≤ 9223372036854775807) (hn : n ≤ 9223372036854775807) : IntKind.i64.wrap ((BitVec.ofInt 64 (m : Int) &&& ~~~(BitVec.ofInt 64 (n : Int))).toNat : Int) = ((m ^^^ (m &&& n) : Nat) : Int) := by
  have h : (BitVec.ofInt 64 (m : Int) &&& ~~~(BitVec.ofInt 64 (n : Int))).toNat = m ^^^ (m &&& n) := by
    refine Nat.eq_of_testBit_eq fun i => ?_
    rw [Nat.testBit_xor, Nat.testBit_and, BitVec.testBit_toNat, BitVec.getLsbD_and, BitVec.getLsbD_not]
    have h1 : (BitVec.ofInt 64 (m : Int)).getLsbD i = m.testBit i := by rw [← BitVec.testBit_toNat, nat_bv m hm]
    have h2 : (BitVec.ofInt 64 (n : Int)).getLsbD i = n.testBit i := by rw [← BitVec.testBit_toNat, nat_bv n hn]
    rw [h1, h2]
    by_cases hi : i < 64
    · rw [decide_eq_true hi]; cases m.testBit i <;> cases n.testBit i <;> rfl
    · have : m < 2 ^ i := Nat.lt_of_lt_of_le (show m < 2 ^ 64 by omega) (Nat.pow_le_pow_right (by decide) (by omega))
      rw [Nat.testBit_lt_two_pow this]; simp
  have hle : m ^^^ (m &&& n) ≤ m := by
    have hsub : (m ^^^ (m &&& n)) &&& m = m ^^^ (m &&& n) := Nat.eq_of_testBit_eq fun i => by
      rw [Nat.testBit_and, Nat.testBit_xor, Nat.testBit_and]; cases m.testBit i <;> cases n.testBit i <;> rfl
    rw [← hsub]; exact Nat.and_le_right
  rw [h]; exact IntWalk.i64_in _ (by omega)
theorem y_andNotN {m n : Nat} (hx : val L x = some (.int .i64 (m : Nat))) (hy : val L y = some (.int .i64 (n : Nat))) (hm : m ≤ 9223372036854775807) (hn : n ≤ 9223372036854775807) : Yi C ⟨dst, .binOp .andNot t x y t', ty, pos, aft, gu⟩ L O S (.int .i64 ((m ^^^ (m &&& n) : Nat) : Int)) :=
  yi_val (by intro c h; cases h) fun a w hr _ => by
    have e : binOp .andNot t (.int .i64 (m : Int)) (.int .i64 (n : Int)) = pure (.int .i64 ((m ^^^ (m &&& n) : Nat) : Int)) := by
      unfold binOp
      simp only [ne_eq, not_true_eq_false, if_false]
      exact congrArg (fun z => (pure (Value.int .i64 z) : Sem Value)) (andNot_nat m n hm hn)
    simp [execOp, hr.val hx, hr.val hy, eqGuard, e]
theorem y_shl1I {n : Int} (hx : val L x = some (.int .i64 1)) (hy : val L y = some (.int .i64 n)) (h0 : 0 ≤ n) (hn : n ≤ 62) : Yi C ⟨dst, .binOp .shl t x y t', ty, pos, aft, gu⟩ L O S (.int .i64 ((2 ^ n.toNat : Nat) : Int)) := by
  have h : val L y = some (.int .i64 (n.toNat : Nat)) := by rw [hy, Int.toNat_of_nonneg h0]
  exact y_shl1 hx h (by omega)
/-! ### Panics -/
section
variable {xs : List Operand} {vs : List Value} {ats : Array TypeId} {f : FuncId}
end
/-! ### Deferred calls that recover -/
end
end Go.Sx
namespace Go.Sx
open Go.RowKit
section
variable {C : Cx} {Q : Exit → Act → World → Prop} {L : Regs} {O S : List Fact} {ops : Array Oper} {rest : List Oper} {ty : TypeId} {pos : String} {aft : Array Edge} {dst : Option Tmp} {gu : Option (Nat × Bool)} {t : TypeId}
/-- The queue: elements of a cell each, from the k-th cell of a block on. -/
def qu {α : Type} (e : TypeId) (en : α → Value) (b k c : Nat) (xs : List α) : Fact where
  fp := fun i => i = b
  P := fun w => ∃ cur, w.heap[b]? = some (.cells cur e (0, 0)) ∧ k + c ≤ cur.size ∧ xs.length ≤ c ∧ (cur.toList.drop k).take xs.length = xs.map en
  stab := fun h ⟨cur, h1, h2⟩ => ⟨cur, (h b rfl).trans h1, h2⟩
class UpdQu (O : List Fact) {α : Type} (e : outParam TypeId) (en : outParam (α → Value)) (b k c : Nat) (xs : List α) (f' : Fact) (O' : outParam (List Fact)) : Prop where
  rep : Rep O (qu e en b k c xs) f' O'
instance (priority := 900) UpdQu.tail {α : Type} (f : Fact) (O O' : List Fact) (e : TypeId) (en : α → Value) (b k c : Nat) (xs : List α) (f' : Fact) [h : UpdQu O e en b k c xs f' O'] : UpdQu (f :: O) e en b k c xs f' (f :: O') := ⟨.tail _ _ _ _ _ h.rep⟩
instance (priority := 1000) UpdQu.head {α : Type} (O : List Fact) (e : TypeId) (en : α → Value) (b k c : Nat) (xs : List α) (f' : Fact) : UpdQu (qu e en b k c xs :: O) e en b k c xs f' (f' :: O) := ⟨.head _ _ _⟩
/-- A block of one's own, told in other words. -/
class UpdB1 (O : List Fact) (b : Nat) (ob : outParam Obj) (f' : Fact) (O' : outParam (List Fact)) : Prop where
  rep : Rep O (ownB b ob) f' O'
instance (priority := 900) UpdB1.tail (f : Fact) (O O' : List Fact) (b : Nat) (ob : Obj) (f' : Fact) [h : UpdB1 O b ob f' O'] : UpdB1 (f :: O) b ob f' (f :: O') := ⟨.tail _ _ _ _ _ h.rep⟩
instance (priority := 1000) UpdB1.head (O : List Fact) (b : Nat) (ob : Obj) (f' : Fact) : UpdB1 (ownB b ob :: O) b ob f' (f' :: O) := ⟨.head _ _ _⟩
/-! ### Frozen facts -/
theorem Hp.frzS {F : Nat → Prop} {w0 w : World} {O O' S : List Fact} (hp : Hp F w0 O S w) (o f : Fact) (hs : (o :: O').Sublist O) (hP : f.P w) (hfp : ∀ b, f.fp b → o.fp b ∨ ∃ g ∈ S, g.fp b) : Hp F w0 O' (f :: S) w := by
  have h1 := hp.sub (O' := o :: O') (S' := S) hs (fun _ h => h)
  have h2 := hp.sub (O' := O') (S' := S) ((List.sublist_cons_self o O').trans hs) (fun _ h => h)
  refine ⟨h2.os, h2.tape, h2.output, h2.size, h2.fr, h2.own, h2.apart, fun g hg => ?_⟩
  rcases List.mem_cons.1 hg with rfl | hg
  · refine ⟨hP, fun b hb => ?_, fun q hq b hb hqb => ?_⟩
    · rcases hfp b hb with h | ⟨g, hg, h⟩
      · exact ((h1.own o (List.mem_cons_self ..)).2 b h).1
      · exact (h2.shared g hg).2.1 b h
    · rcases hfp b hb with h | ⟨g, hg, h⟩
      · exact (List.pairwise_cons.1 h1.apart).1 q hq b h hqb
      · exact (h2.shared g hg).2.2 q hq b h hqb
  · exact h2.shared g hg
theorem cj_frzS {cd : Code} {O' : List Fact} (o f : Fact) [hs : SubO (o :: O') O] (hP : ∀ w, Hp C.F C.w0 O S w → f.P w) (hfp : ∀ b, f.fp b → o.fp b ∨ ∃ g ∈ S, g.fp b) (k : CJ C cd Q L O' (f :: S)) : CJ C cd Q L O S :=
  fun a w hr hp => k a w hr (Hp.frzS hp o f hs.sub (hP w hp) hfp)
/-- A call whose result may be about what is shared already, or about new blocks. -/
theorem oj_callR {X : Type} {xs : List Operand} {vs : List Value} {ats : Array TypeId} {f : FuncId} {d : Nat} (enc : X → Value) (Sx : X → List Fact) (hf : ∀ args w, (callFunc f args).run C.P w = .ok (.enter f args) w) (hv : valsO L xs = some vs)
    (hc : ∀ w, Hp C.F C.w0 O S w → Calls C.P f vs.toArray w (fun e w' => ∃ x, e = .returned (enc x) ∧ Grow w w' ∧ ∀ g ∈ Sx x, g.P w' ∧ ∀ b, g.fp b → (∃ s ∈ S, s.fp b) ∨ (w.heap.size ≤ b ∧ b < w'.heap.size))) (hdN : Nat.blt d C.N = true)
    (k : ∀ x, OJ C ops Q rest ((d, enc x) :: L) O (Sx x ++ S)) : OJ C ops Q (⟨some d, .call ⟨.value (.func f), xs.toArray, ats⟩, ty, pos, aft, none⟩ :: rest) L O S := by
  intro a w hr hp
  have hdN' : d < C.N := by simpa [Nat.blt_eq] using hdN
  unfold wpListIn
  rw [if_pos (by simp [Region.wanted])]
  refine ⟨fun _ _ => trivial, ?_⟩
  rw [Oper.semAt_eq _ _ _ (by intro c h; cases h), run_call hr hf hv]
  refine ⟨fun h => (by cases h), callsIn_FR.2 ((hc w hp).mono fun e w' hx => ?_)⟩
  obtain ⟨x, rfl, hg, hS⟩ := hx
  have h1 := hp.grow hg
  refine k x _ w' (hr.put hdN' _) ⟨h1.os, h1.tape, h1.output, h1.size, h1.fr, h1.own, h1.apart, fun g hg' => ?_⟩
  rcases List.mem_append.1 hg' with hg' | hg'
  · refine ⟨(hS g hg').1, fun b hb => ?_, fun o ho b hb hob => ?_⟩
    · rcases (hS g hg').2 b hb with ⟨s, hs, h⟩ | h
      · exact (h1.shared s hs).2.1 b h
      · exact h.2
    · rcases (hS g hg').2 b hb with ⟨s, hs, h⟩ | h
      · exact (h1.shared s hs).2.2 o ho b h hob
      · have := ((hp.own o ho).2 b hob).1; omega
  · exact h1.shared g hg'
end
end Go.Sx
namespace Go.Sx
open Go.RowKit
section
variable {C : Cx} {Q : Exit → Act → World → Prop} {L : Regs} {O S : List Fact} {ops : Array Oper} {rest : List Oper} {ty : TypeId} {pos : String} {aft : Array Edge} {dst : Option Tmp} {gu : Option (Nat × Bool)} {t : TypeId} {x y : Operand}
theorem tk_all (cs : List Value) {n : Nat} (h : cs.length = n) : Tk n 0 cs cs := ⟨fun j _ => by rw [Nat.zero_add], h⟩
/-- An array of zero values. -/
theorem y_buildA0 {e n sz : Nat} {z : Value} {cs : List Value} (hu : C.P.underlying t = some (.array n e)) (hs : ∀ w, (sizeOf e).run C.P w = .ok sz w) (hz : ∀ w, (zeroValue t).run C.P w = .ok z w) (hc : z.cells = cs.toArray) : Yi C ⟨dst, .build t #[], ty, pos, aft, gu⟩ L O S (.agg cs.toArray) :=
  yi_val (by intro c h; cases h) fun a w hr _ => by
    simp only [execOp, Instr.build, Sem.run_bind, hz, Result.andThen_ok, run_underlying hu, hs, hc]
    simp [Instr.fill]
end
end Go.Sx
namespace Go.Sx
open Go.RowKit
section
variable {C : Cx} {L : Regs} {O S : List Fact} {ty : TypeId} {pos : String} {aft : Array Edge} {dst : Option Tmp} {gu : Option (Nat × Bool)} {t t' : TypeId} {x y : Operand}
/-- An element of a slice whose length is known in other words. -/
theorem y_ixRm {α : Type} {m s e n c sz : Nat} {A : Option Addr} {i : Int} {k : IntKind} {enc : α → List Value} {xs : List α} (hm : m = xs.length) (hr0 : Reads C O S sz enc A xs) (hu : C.P.underlying s = some (.slice e)) (hs : ∀ w, (sizeOf e).run C.P w = .ok n w) (hx : val L x = some (.slice A m c)) (hy : val L y = some (.int k i)) (hi : 0 ≤ i ∧ i < m) :
    Yi C ⟨dst, .indexAddr s x y, ty, pos, aft, gu⟩ L O S (.pointer (some (at_ A (i.toNat * n)))) := by
  subst hm
  exact y_ixR hr0 hu hs hx hy hi
end
end Go.Sx
namespace Um
def sumI : List Int → Int
  | [] => 0
  | x :: l => x + sumI l
theorem sumI_append (a b : List Int) : sumI (a ++ b) = sumI a + sumI b := by
  induction a with
  | nil => simp [sumI]
  | cons x a ih => rw [List.cons_append, sumI, sumI, ih]; omega
theorem sumI_set : ∀ (l : List Int) (i : Nat) (v : Int), i < l.length → sumI (l.set i v) = sumI l - l.getD i 0 + v
  | [], i, v, h => by simp at h
  | x :: l, 0, v, _ => by simp [sumI]; omega
  | x :: l, i + 1, v, h => by
    have := sumI_set l i v (by simpa using h)
    simp only [List.set_cons_succ, sumI, List.getD_cons_succ, this]; omega
theorem sumI_nonneg : ∀ {l : List Int}, (∀ x ∈ l, 0 ≤ x) → 0 ≤ sumI l
  | [], _ => Int.le_refl _
  | x :: l, h => by
    have h1 := h x (List.mem_cons_self ..)
    have h2 := sumI_nonneg (l := l) fun y hy => h y (List.mem_cons_of_mem _ hy)
    rw [sumI]; omega
theorem sumI_le_mul {m : Int} : ∀ {l : List Int}, (∀ x ∈ l, x ≤ m) → sumI l ≤ l.length * m
  | [], _ => by simp [sumI]
  | x :: l, h => by
    have h1 := h x (List.mem_cons_self ..)
    have h2 := sumI_le_mul (l := l) fun y hy => h y (List.mem_cons_of_mem _ hy)
    rw [sumI, List.length_cons, Int.natCast_add, Int.add_mul]; omega
theorem sumI_take_get : ∀ {l : List Int} {k : Nat} {x : Int}, l[k]? = some x → sumI (l.take (k + 1)) = sumI (l.take k) + x
  | l, k, x, h => by
    rw [List.take_add_one, h, sumI_append]
    simp [sumI]
theorem sumI_mem_le : ∀ {l : List Int}, (∀ x ∈ l, 0 ≤ x) → ∀ x ∈ l, x ≤ sumI l
  | [], _, _, h => by cases h
  | y :: l, h, x, hx => by
    have h0 := h y (List.mem_cons_self ..)
    have hn := sumI_nonneg (l := l) fun z hz => h z (List.mem_cons_of_mem _ hz)
    rw [sumI]
    rcases List.mem_cons.1 hx with rfl | hx
    · omega
    · have := sumI_mem_le (l := l) (fun z hz => h z (List.mem_cons_of_mem _ hz)) x hx; omega

/-- The floors. -/
def flo (l : List Int) (all whole : Int) : List Int := l.map fun w => all * w / whole
/-- The index that gets the next one. -/
def bstF (l out : List Int) : Nat → Nat → Nat → Nat
  | 0, _, b => b
  | n + 1, i, b => bstF l out n (i + 1) (if l.getD i 0 * (out.getD b 0 + 1) > l.getD b 0 * (out.getD i 0 + 1) then i else b)
def nxtI (l out : List Int) : Nat := bstF l out l.length 0 0
def bump (out : List Int) (i : Nat) : List Int := out.set i (out.getD i 0 + 1)
def shareF (l : List Int) : Nat → List Int → List Int
  | 0, out => out
  | n + 1, out => shareF l n (bump out (nxtI l out))
def shareL (l : List Int) (all : Int) : List Int := shareF l (all - sumI (flo l all (sumI l))).toNat (flo l all (sumI l))

/-- Unit a of i comes before unit b of j. -/
def Bt (l : List Int) (i : Nat) (a : Int) (j : Nat) (b : Int) : Prop := l.getD i 0 * b > l.getD j 0 * a ∨ (l.getD i 0 * b = l.getD j 0 * a ∧ i < j)
structure Stab (l out : List Int) : Prop where
  len : out.length = l.length
  nn : ∀ i, 0 ≤ out.getD i 0
  st : ∀ i j, i < l.length → j < l.length → i ≠ j → 0 < out.getD i 0 → Bt l i (out.getD i 0) j (out.getD j 0 + 1)

theorem gd_lt {l : List Int} {i : Nat} (h : i < l.length) : l.getD i 0 = l[i] := by simp [List.getD_eq_getElem?_getD, h]
theorem gd_ge {l : List Int} {i : Nat} (h : l.length ≤ i) : l.getD i 0 = 0 := by simp [List.getD_eq_getElem?_getD, h]
theorem getD_nn {l : List Int} (h : ∀ x ∈ l, 0 ≤ x) (i : Nat) : 0 ≤ l.getD i 0 := by
  by_cases hi : i < l.length
  · rw [gd_lt hi]; exact h _ (List.getElem_mem hi)
  · rw [gd_ge (by omega)]; exact Int.le_refl _
theorem flo_len (l : List Int) (all whole : Int) : (flo l all whole).length = l.length := List.length_map ..
theorem flo_get (l : List Int) (all whole : Int) (i : Nat) : (flo l all whole).getD i 0 = all * l.getD i 0 / whole := by
  by_cases hi : i < l.length
  · rw [gd_lt (show i < (flo l all whole).length by rw [flo_len]; exact hi), gd_lt hi]; simp [flo]
  · rw [gd_ge (show (flo l all whole).length ≤ i by rw [flo_len]; omega), gd_ge (by omega)]; simp
theorem bt_floor {all whole u v a b : Int} (hw : 0 < whole) (hu : 0 ≤ u) (hv : 0 ≤ v) (ha : a = all * u / whole) (hb : b = all * v / whole) (hp : 0 < a) : v * a < u * (b + 1) := by
  have h1 : a * whole ≤ all * u := by rw [ha]; exact Int.ediv_mul_le _ (by omega)
  have h2 : all * v < (b + 1) * whole := by rw [hb]; exact Int.lt_ediv_add_one_mul_self _ hw
  have hu0 : 0 < u := by
    rcases Int.lt_or_eq_of_le hu with h | h
    · exact h
    · rw [← h] at ha; simp at ha; omega
  have h3 : v * (a * whole) ≤ v * (all * u) := Int.mul_le_mul_of_nonneg_left h1 hv
  have h4 : u * (all * v) < u * ((b + 1) * whole) := Int.mul_lt_mul_of_pos_left h2 hu0
  have h5 : v * (all * u) = u * (all * v) := by rw [Int.mul_left_comm, Int.mul_comm v u, Int.mul_left_comm u all v]
  have h6 : (v * a) * whole < (u * (b + 1)) * whole := by rw [Int.mul_assoc, Int.mul_assoc]; omega
  exact Int.lt_of_mul_lt_mul_right h6 (by omega)
theorem stab_flo {l : List Int} (hl : ∀ x ∈ l, 0 ≤ x) {all : Int} (hall : 0 ≤ all) (hw : 0 < sumI l) : Stab l (flo l all (sumI l)) where
  len := flo_len ..
  nn i := by rw [flo_get]; exact Int.ediv_nonneg (Int.mul_nonneg hall (getD_nn hl i)) (by omega)
  st i j _ _ _ hp := .inl (bt_floor hw (getD_nn hl i) (getD_nn hl j) (flo_get ..) (flo_get ..) hp)

/-- The best next unit is the best one. -/
theorem bst_spec {l out : List Int} (hl : ∀ i, 0 ≤ l.getD i 0) (ho : ∀ i, 0 ≤ out.getD i 0) : ∀ (n i b : Nat), b < i ∨ (i = 0 ∧ b = 0) → (∀ j, j < i → j ≠ b → Bt l b (out.getD b 0 + 1) j (out.getD j 0 + 1)) →
    (bstF l out n i b < i + n ∨ (i + n = 0 ∧ bstF l out n i b = 0)) ∧ ∀ j, j < i + n → j ≠ bstF l out n i b → Bt l (bstF l out n i b) (out.getD (bstF l out n i b) 0 + 1) j (out.getD j 0 + 1)
  | 0, i, b, hb, h => ⟨by rw [bstF]; omega, by rw [bstF, Nat.add_zero]; exact h⟩
  | n + 1, i, b, hb, h => by
    rw [bstF, show i + (n + 1) = (i + 1) + n by omega]
    split
    · rename_i hgt
      refine bst_spec hl ho n (i + 1) i (.inl (by omega)) fun j hj hne => ?_
      have hji : j < i := by omega
      by_cases hjb : j = b
      · subst hjb; exact .inl hgt
      · have hb0 : b < i := by omega
        have h1 := h j hji hjb
        have e1 : l.getD j 0 * (out.getD b 0 + 1) ≤ l.getD b 0 * (out.getD j 0 + 1) := by rcases h1 with h1 | h1 <;> omega
        -- j ≤ b < i, as quotients
        refine .inl ?_
        have p1 : 0 < out.getD b 0 + 1 := by have := ho b; omega
        have p2 : 0 < out.getD j 0 + 1 := by have := ho j; omega
        have p3 : 0 < out.getD i 0 + 1 := by have := ho i; omega
        have q1 : (l.getD j 0 * (out.getD b 0 + 1)) * (out.getD i 0 + 1) ≤ (l.getD b 0 * (out.getD j 0 + 1)) * (out.getD i 0 + 1) := Int.mul_le_mul_of_nonneg_right e1 (by omega)
        have q2 : (l.getD b 0 * (out.getD i 0 + 1)) * (out.getD j 0 + 1) < (l.getD i 0 * (out.getD b 0 + 1)) * (out.getD j 0 + 1) := Int.mul_lt_mul_of_pos_right hgt p2
        have q3 : (l.getD b 0 * (out.getD j 0 + 1)) * (out.getD i 0 + 1) = (l.getD b 0 * (out.getD i 0 + 1)) * (out.getD j 0 + 1) := by rw [Int.mul_assoc, Int.mul_assoc, Int.mul_comm (out.getD j 0 + 1)]
        have q4 : (l.getD j 0 * (out.getD i 0 + 1)) * (out.getD b 0 + 1) < (l.getD i 0 * (out.getD j 0 + 1)) * (out.getD b 0 + 1) := by
          rw [Int.mul_assoc, Int.mul_comm (out.getD i 0 + 1), ← Int.mul_assoc, Int.mul_assoc (l.getD i 0), Int.mul_comm (out.getD j 0 + 1), ← Int.mul_assoc (l.getD i 0)]
          omega
        exact Int.lt_of_mul_lt_mul_right q4 (by omega)
    · rename_i hle
      refine bst_spec hl ho n (i + 1) b (.inl (by omega)) fun j hj hne => ?_
      by_cases hji : j < i
      · exact h j hji hne
      · have : j = i := by omega
        subst this
        have h2 : l.getD j 0 * (out.getD b 0 + 1) ≤ l.getD b 0 * (out.getD j 0 + 1) := by omega
        rcases Int.lt_or_eq_of_le h2 with h3 | h3
        · exact .inl h3
        · exact .inr ⟨h3.symm, by omega⟩
theorem nxt_lt {l out : List Int} (hl : ∀ i, 0 ≤ l.getD i 0) (ho : ∀ i, 0 ≤ out.getD i 0) (hne : 0 < l.length) : nxtI l out < l.length := by
  have := (bst_spec hl ho l.length 0 0 (.inr ⟨rfl, rfl⟩) (fun j hj => by omega)).1
  unfold nxtI; omega
theorem nxt_best {l out : List Int} (hl : ∀ i, 0 ≤ l.getD i 0) (ho : ∀ i, 0 ≤ out.getD i 0) (j : Nat) (hj : j < l.length) (hne : j ≠ nxtI l out) : Bt l (nxtI l out) (out.getD (nxtI l out) 0 + 1) j (out.getD j 0 + 1) :=
  (bst_spec hl ho l.length 0 0 (.inr ⟨rfl, rfl⟩) (fun j hj => by omega)).2 j (by omega) hne
theorem bump_len (out : List Int) (i : Nat) : (bump out i).length = out.length := List.length_set ..
theorem bump_get (out : List Int) (i j : Nat) (hi : i < out.length) : (bump out i).getD j 0 = if i = j then out.getD i 0 + 1 else out.getD j 0 := by
  unfold bump
  rw [List.getD_eq_getElem?_getD, List.getElem?_set]
  split
  · subst_vars; simp [hi]
  · rw [List.getD_eq_getElem?_getD]
theorem stab_bump {l out : List Int} (hl : ∀ x ∈ l, 0 ≤ x) (h : Stab l out) (hne : 0 < l.length) : Stab l (bump out (nxtI l out)) := by
  have hg := getD_nn hl
  have hlt := nxt_lt hg h.nn hne
  have hlo : nxtI l out < out.length := by rw [h.len]; exact hlt
  refine ⟨by rw [bump_len, h.len], fun i => ?_, fun i j hi hj hij hp => ?_⟩
  · rw [bump_get _ _ _ hlo]
    split
    · have := h.nn (nxtI l out); omega
    · exact h.nn i
  · rw [bump_get _ _ _ hlo] at hp ⊢
    rw [bump_get _ _ _ hlo]
    split
    · rename_i e; subst e
      rw [if_neg hij]
      exact nxt_best hg h.nn j hj (fun e => hij e.symm)
    · rename_i e
      rw [if_neg e] at hp
      split
      · rename_i e2; subst e2
        have h1 := h.st i _ hi hj hij hp
        have h2 : l.getD i 0 * (out.getD (nxtI l out) 0 + 1) ≤ l.getD i 0 * (out.getD (nxtI l out) 0 + 1 + 1) := Int.mul_le_mul_of_nonneg_left (by omega) (hg i)
        rcases h1 with h1 | ⟨h1, h3⟩
        · exact .inl (by omega)
        · rcases Int.lt_or_eq_of_le h2 with h4 | h4
          · exact .inl (by omega)
          · exact .inr ⟨by omega, h3⟩
      · exact h.st i j hi hj hij hp
theorem stab_share {l : List Int} (hl : ∀ x ∈ l, 0 ≤ x) (hne : 0 < l.length) : ∀ (n : Nat) (out : List Int), Stab l out → Stab l (shareF l n out) ∧ sumI (shareF l n out) = sumI out + n
  | 0, out, h => ⟨h, by rw [shareF]; omega⟩
  | n + 1, out, h => by
    rw [shareF]
    obtain ⟨h1, h2⟩ := stab_share hl hne n _ (stab_bump hl h hne)
    refine ⟨h1, ?_⟩
    have hlt := nxt_lt (getD_nn hl) h.nn hne
    rw [h2, bump, sumI_set _ _ _ (by rw [h.len]; exact hlt)]; omega
theorem flo_sum {l : List Int} {all whole : Int} (hw : 0 < whole) : sumI (flo l all whole) * whole ≤ all * sumI l := by
  induction l with
  | nil => simp [flo, sumI]
  | cons x l ih =>
    have h1 : all * x / whole * whole ≤ all * x := Int.ediv_mul_le _ (by omega)
    simp only [flo, List.map_cons, sumI] at ih ⊢
    rw [Int.add_mul, Int.mul_add]; omega
theorem flo_le {l : List Int} {all : Int} (hw : 0 < sumI l) : sumI (flo l all (sumI l)) ≤ all :=
  Int.le_of_mul_le_mul_right (flo_sum hw) hw
theorem share_stab {l : List Int} (hl : ∀ x ∈ l, 0 ≤ x) {all : Int} (hall : 0 ≤ all) (hw : 0 < sumI l) : Stab l (shareL l all) ∧ sumI (shareL l all) = all := by
  have hne : 0 < l.length := by cases l with | nil => simp [sumI] at hw | cons _ _ => simp
  obtain ⟨h1, h2⟩ := stab_share hl hne (all - sumI (flo l all (sumI l))).toNat _ (stab_flo hl hall hw)
  refine ⟨h1, ?_⟩
  have := flo_le (l := l) (all := all) hw
  show sumI (shareF l _ _) = all
  rw [h2]; omega
theorem share_sum {l : List Int} (hl : ∀ x ∈ l, 0 ≤ x) {all : Int} (hall : 0 ≤ all) (hw : 0 < sumI l) : sumI (shareL l all) = all := (share_stab hl hall hw).2
theorem share_len {l : List Int} (hl : ∀ x ∈ l, 0 ≤ x) {all : Int} (hall : 0 ≤ all) (hw : 0 < sumI l) : (shareL l all).length = l.length := (share_stab hl hall hw).1.len
theorem share_nn {l : List Int} (hl : ∀ x ∈ l, 0 ≤ x) {all : Int} (hall : 0 ≤ all) (hw : 0 < sumI l) (i : Nat) : 0 ≤ (shareL l all).getD i 0 := (share_stab hl hall hw).1.nn i
end Um
namespace Um
/-- The indices of what is such. -/
def idxF {α : Type} (q : α → Bool) : Nat → List α → List Nat
  | _, [] => []
  | i, x :: l => if q x then i :: idxF q (i + 1) l else idxF q (i + 1) l
def chosenL {α : Type} (q : α → Bool) (l : List α) : List Nat := idxF q 0 l
theorem idxF_mem {α : Type} (q : α → Bool) : ∀ (l : List α) (i j : Nat), j ∈ idxF q i l → i ≤ j ∧ j < i + l.length ∧ ∃ x, l[j - i]? = some x ∧ q x = true
  | [], i, j, h => by cases h
  | x :: l, i, j, h => by
    have rc : j ∈ idxF q (i + 1) l → i ≤ j ∧ j < i + (x :: l).length ∧ ∃ y, (x :: l)[j - i]? = some y ∧ q y = true := fun h => by
      obtain ⟨h1, h2, y, h3, h4⟩ := idxF_mem q l (i + 1) j h
      refine ⟨by omega, by rw [List.length_cons]; omega, y, ?_, h4⟩
      rw [show j - i = (j - (i + 1)) + 1 by omega]; simpa using h3
    rw [idxF] at h
    split at h
    · rename_i hq
      rcases List.mem_cons.1 h with rfl | h
      · exact ⟨Nat.le_refl _, by simp, x, by simp, hq⟩
      · exact rc h
    · exact rc h
theorem idxF_sorted {α : Type} (q : α → Bool) : ∀ (l : List α) (i : Nat), (idxF q i l).Pairwise (· < ·)
  | [], _ => .nil
  | x :: l, i => by
    rw [idxF]
    split
    · exact List.pairwise_cons.2 ⟨fun j hj => by have := (idxF_mem q l (i + 1) j hj).1; omega, idxF_sorted q l (i + 1)⟩
    · exact idxF_sorted q l (i + 1)
theorem chosen_mem {α : Type} {q : α → Bool} {l : List α} {j : Nat} (h : j ∈ chosenL q l) : j < l.length ∧ ∃ x, l[j]? = some x ∧ q x = true := by
  obtain ⟨_, h2, h3⟩ := idxF_mem q l 0 j h
  exact ⟨by omega, by simpa using h3⟩
theorem chosen_nodup {α : Type} (q : α → Bool) (l : List α) : (chosenL q l).Nodup := (idxF_sorted q l 0).imp fun h => Nat.ne_of_lt h
structure DueV where
  rank : Int
  amount : Int
/-- Values are put at indices. -/
def putL : List Int → List Nat → List Int → List Int
  | paid, i :: here, v :: own => putL (paid.set i v) here own
  | paid, _, _ => paid
theorem putL_nil (paid own : List Int) : putL paid [] own = paid := by cases own <;> rfl
theorem putL_len : ∀ (here : List Nat) (own paid : List Int), (putL paid here own).length = paid.length
  | [], _, _ => by rw [putL_nil]
  | _ :: _, [], _ => rfl
  | i :: here, v :: own, paid => by rw [putL, putL_len, List.length_set]
theorem putL_out : ∀ (here : List Nat) (own paid : List Int) (j : Nat), j ∉ here → (putL paid here own).getD j 0 = paid.getD j 0
  | [], _, _, _, _ => by rw [putL_nil]
  | _ :: _, [], _, _, _ => rfl
  | i :: here, v :: own, paid, j, h => by
    rw [putL, putL_out here own _ j (fun h2 => h (List.mem_cons_of_mem _ h2)), List.getD_eq_getElem?_getD, List.getElem?_set_ne (fun e => h (by rw [e]; exact List.mem_cons_self ..)), List.getD_eq_getElem?_getD]
theorem putL_sum : ∀ (here : List Nat) (own paid : List Int), here.Nodup → here.length = own.length → (∀ i ∈ here, i < paid.length) → (∀ i ∈ here, paid.getD i 0 = 0) → sumI (putL paid here own) = sumI paid + sumI own
  | [], [], paid, _, _, _, _ => by simp [putL, sumI]
  | [], _ :: _, _, _, h, _, _ => by simp at h
  | _ :: _, [], _, _, h, _, _ => by simp at h
  | i :: here, v :: own, paid, hn, hl, hb, hz => by
    obtain ⟨h1, h2⟩ := List.nodup_cons.1 hn
    rw [putL, putL_sum here own _ h2 (by simpa using hl) (fun j hj => by rw [List.length_set]; exact hb j (List.mem_cons_of_mem _ hj)) (fun j hj => by
      rw [List.getD_eq_getElem?_getD, List.getElem?_set_ne (fun e => h1 (by rw [e]; exact hj)), ← List.getD_eq_getElem?_getD]; exact hz j (List.mem_cons_of_mem _ hj)),
      sumI_set _ _ _ (hb i (List.mem_cons_self ..)), hz i (List.mem_cons_self ..), sumI]; omega
theorem putL_nn : ∀ (here : List Nat) (own paid : List Int), (∀ i, 0 ≤ own.getD i 0) → (∀ i, 0 ≤ paid.getD i 0) → ∀ i, 0 ≤ (putL paid here own).getD i 0
  | [], _, _, _, h, i => by rw [putL_nil]; exact h i
  | _ :: _, [], _, _, h, i => h i
  | k :: here, v :: own, paid, ho, hp, i => by
    rw [putL]
    refine putL_nn here own _ (fun i => by have := ho (i + 1); simpa using this) (fun i => ?_) i
    have h0 : 0 ≤ v := by have := ho 0; simpa using this
    have := hp i
    simp only [List.getD_eq_getElem?_getD, List.getElem?_set] at this ⊢
    split
    · split <;> simp [h0]
    · exact this

def hereL (ds : List DueV) (r : Int) : List Nat := chosenL (fun d => d.rank == r) ds
def ownL (ds : List DueV) (r : Int) : List Int := (hereL ds r).map fun i => (ds.map (·.amount)).getD i 0
def gotL (ds : List DueV) (r left : Int) : List Int := if left < sumI (ownL ds r) then shareL (ownL ds r) left else ownL ds r
def rankS (ds : List DueV) (st : List Int × Int) (r : Int) : List Int × Int := if sumI (ownL ds r) = 0 then st else (putL st.1 (hereL ds r) (gotL ds r st.2), st.2 - min st.2 (sumI (ownL ds r)))
def DuesOk (ds : List DueV) : Prop := ∀ d ∈ ds, 0 ≤ d.amount

theorem own_nn {ds : List DueV} (h : DuesOk ds) (r : Int) : ∀ x ∈ ownL ds r, 0 ≤ x := fun x hx => by
  obtain ⟨i, _, rfl⟩ := List.mem_map.1 hx
  exact getD_nn (fun y hy => by obtain ⟨d, hd, rfl⟩ := List.mem_map.1 hy; exact h d hd) i
theorem own_len (ds : List DueV) (r : Int) : (ownL ds r).length = (hereL ds r).length := List.length_map ..
theorem own_pos {ds : List DueV} (h : DuesOk ds) {r : Int} (hne : ¬ sumI (ownL ds r) = 0) : 0 < sumI (ownL ds r) := by
  have := sumI_nonneg (own_nn h r); omega
theorem got_len {ds : List DueV} (h : DuesOk ds) {r left : Int} (hl : 0 ≤ left) (hne : ¬ sumI (ownL ds r) = 0) : (gotL ds r left).length = (hereL ds r).length := by
  unfold gotL
  split
  · rw [share_len (own_nn h r) hl (own_pos h hne), own_len]
  · rw [own_len]
theorem got_sum {ds : List DueV} (h : DuesOk ds) {r left : Int} (hl : 0 ≤ left) (hne : ¬ sumI (ownL ds r) = 0) : sumI (gotL ds r left) = min left (sumI (ownL ds r)) := by
  unfold gotL
  split
  · rw [share_sum (own_nn h r) hl (own_pos h hne)]; omega
  · omega
theorem got_nn {ds : List DueV} (h : DuesOk ds) {r left : Int} (hl : 0 ≤ left) (hne : ¬ sumI (ownL ds r) = 0) (i : Nat) : 0 ≤ (gotL ds r left).getD i 0 := by
  unfold gotL
  split
  · exact share_nn (own_nn h r) hl (own_pos h hne) i
  · exact getD_nn (own_nn h r) i
/-- What holds between the ranks. -/
structure SpInv (ds : List DueV) (r left0 : Int) (st : List Int × Int) : Prop where
  len : st.1.length = ds.length
  nn : ∀ i, 0 ≤ st.1.getD i 0
  left : 0 ≤ st.2
  sum : sumI st.1 + st.2 = left0
  zero : ∀ (i : Nat) d, ds[i]? = some d → r ≤ d.rank → st.1.getD i 0 = 0
theorem SpInv.step {ds : List DueV} (h : DuesOk ds) {r left0 : Int} {st : List Int × Int} (hi : SpInv ds r left0 st) : SpInv ds (r + 1) left0 (rankS ds st r) := by
  unfold rankS
  split
  · exact ⟨hi.len, hi.nn, hi.left, hi.sum, fun i d hd hr => hi.zero i d hd (by omega)⟩
  · rename_i hne
    have hz : ∀ i ∈ hereL ds r, st.1.getD i 0 = 0 := fun i hi2 => by
      obtain ⟨_, d, hd, hq⟩ := chosen_mem hi2
      exact hi.zero i d hd (by have := beq_iff_eq.1 hq; omega)
    have hb : ∀ i ∈ hereL ds r, i < st.1.length := fun i hi2 => by rw [hi.len]; exact (chosen_mem hi2).1
    refine ⟨by rw [putL_len, hi.len], putL_nn _ _ _ (got_nn h hi.left hne) hi.nn, ?_, ?_, fun i d hd hr => ?_⟩
    · show 0 ≤ st.2 - min st.2 _
      have := hi.left; omega
    · show sumI (putL _ _ _) + (st.2 - min st.2 _) = left0
      rw [putL_sum (hereL ds r) _ _ (chosen_nodup _ _) (got_len h hi.left hne).symm hb hz, got_sum h hi.left hne]
      have := hi.sum; omega
    · rw [putL_out _ _ _ _ fun hm => ?_]
      · exact hi.zero i d hd (by omega)
      · obtain ⟨_, d2, hd2, hq⟩ := chosen_mem hm
        rw [hd] at hd2; cases hd2
        have := beq_iff_eq.1 hq; omega
end Um
namespace Um
open Go Go.Sx Go.RowKit
theorem dropG {α : Type} {l : List α} {k : Nat} {x : α} (h : l[k]? = some x) : l.drop k = x :: l.drop (k + 1) := by
  obtain ⟨hk, e⟩ := List.getElem?_eq_some_iff.1 h
  rw [List.drop_eq_getElem_cons hk, e]
theorem not_t {b : Bool} (h : (!b) = true) : b = false := by cases b <;> simp_all
theorem not_f {b : Bool} (h : (!b) = false) : b = true := by cases b <;> simp_all
theorem any_drop {α : Type} (q : α → Bool) (l : List α) (k : Nat) (x : α) (h : l[k]? = some x) : (l.drop k).any q = (q x || (l.drop (k + 1)).any q) := by
  rw [dropG h, List.any_cons]
theorem all_drop {α : Type} (q : α → Bool) (l : List α) (k : Nat) (x : α) (h : l[k]? = some x) : (l.drop k).all q = (q x && (l.drop (k + 1)).all q) := by
  rw [dropG h, List.all_cons]
theorem all_take {α : Type} (q : α → Bool) {l : List α} {k : Nat} {x : α} (h : l[k]? = some x) : (l.take (k + 1)).all q = ((l.take k).all q && q x) := by
  rw [List.take_add_one, h, Option.toList_some, List.all_append]; simp
theorem map_take {α β : Type} (f : α → β) {l : List α} {k : Nat} {x : α} (h : l[k]? = some x) : (l.take (k + 1)).map f = (l.take k).map f ++ [f x] := by
  rw [List.take_add_one, h, Option.toList_some, List.map_append]; rfl
def fidx {α : Type} (q : α → Bool) : List α → Int → Int
  | [], _ => -1
  | x :: l, i => if q x = true then i else fidx q l (i + 1)
theorem fidx_drop {α : Type} (q : α → Bool) (l : List α) (k : Nat) (x : α) (h : l[k]? = some x) : fidx q (l.drop k) k = if q x = true then (k : Int) else fidx q (l.drop (k + 1)) ((k + 1 : Nat) : Int) := by
  rw [dropG h, fidx]; rfl
theorem fidx_ge {α : Type} (q : α → Bool) : ∀ (l : List α) (i : Int), 0 ≤ i → decide (0 ≤ fidx q l i) = l.any q
  | [], i, _ => by simp [fidx]
  | x :: l, i, hi => by
    rw [fidx, List.any_cons]
    cases q x with
    | true => simp [hi]
    | false => rw [if_neg (by simp), fidx_ge q l (i + 1) (by omega), Bool.false_or]
theorem fidx_any {α : Type} (q : α → Bool) (l : List α) : decide (0 ≤ fidx q l 0) = l.any q := fidx_ge q l 0 (Int.le_refl _)
def btw (lo n hi : Int) : Bool := decide (lo ≤ n) && decide (n ≤ hi)
theorem btw_t {lo n hi : Int} (h : btw lo n hi = true) : lo ≤ n ∧ n ≤ hi := by
  unfold btw at h; simpa using h
theorem btw_mk {lo n hi : Int} (h : lo ≤ n ∧ n ≤ hi) : btw lo n hi = true := by unfold btw; simp [h]
theorem any_not {α : Type} (q : α → Bool) (l : List α) : l.any (fun x => !q x) = !(l.all q) := by
  induction l with
  | nil => rfl
  | cons x l ih => rw [List.any_cons, List.all_cons, ih]; cases q x <;> simp
theorem all_mem {α : Type} {q : α → Bool} {l : List α} (h : l.all q = true) {x : α} (hx : x ∈ l) : q x = true := List.all_eq_true.1 h x hx
end Um
namespace Um
open Go Go.Sx Go.RowKit
/-- What is made of the first elements of a list, and zeros behind it. -/
def fillF (f : Int → Int) (l : List Int) (k : Nat) : List Int := (l.take k).map f ++ List.replicate (l.length - k) 0
theorem fill_len (f : Int → Int) (l : List Int) (k : Nat) (h : k ≤ l.length) : (fillF f l k).length = l.length := by
  unfold fillF
  rw [List.length_append, List.length_map, List.length_take, List.length_replicate]; omega
theorem fill_set (f : Int → Int) {l : List Int} {k : Nat} {x : Int} (h : l[k]? = some x) : (fillF f l k).set k (f x) = fillF f l (k + 1) := by
  have hk := (List.getElem?_eq_some_iff.1 h).1
  unfold fillF
  rw [map_take f h, show l.length - k = (l.length - (k + 1)) + 1 by omega, List.replicate_succ, List.set_append_right _ _ (by simp; omega), List.length_map, List.length_take, show k - min k l.length = 0 by omega, List.set_cons_zero, List.append_assoc]; rfl
theorem fill_0 (f : Int → Int) (l : List Int) : fillF f l 0 = List.replicate l.length 0 := by simp [fillF]
theorem fill_all (f : Int → Int) (l : List Int) : fillF f l l.length = l.map f := by simp [fillF]
theorem bump_nn {out : List Int} {i : Nat} (h : ∀ x ∈ out, 0 ≤ x) : ∀ x ∈ bump out i, 0 ≤ x := fun x hx => by
  unfold bump at hx
  rcases List.mem_or_eq_of_mem_set hx with hx | rfl
  · exact h x hx
  · have := getD_nn h i; omega
theorem replicate_enInt (n : Nat) : (List.replicate n (0 : Int)).flatMap enInt = List.replicate n (.int .i64 0) := by
  induction n with
  | zero => rfl
  | succ n ih => rw [List.replicate_succ, List.flatMap_cons, ih, List.replicate_succ]; rfl
end Um
namespace Go.Proofs.YtppfniekcgnmjaaGreat.To
open Go Go.Sx Go.RowKit
theorem eq_drop {α : Type} [DecidableEq α] (a b : List α) (k : Nat) (x y : α) (hx : a[k]? = some x) (hy : b[k]? = some y) : decide (a.drop k = b.drop k) = (decide (x = y) && decide (a.drop (k + 1) = b.drop (k + 1))) := by
  obtain ⟨h1, h2⟩ := List.getElem?_eq_some_iff.1 hx
  obtain ⟨h3, h4⟩ := List.getElem?_eq_some_iff.1 hy
  rw [List.drop_eq_getElem_cons h1, h2, List.drop_eq_getElem_cons h3, h4]
  by_cases h : x = y <;> by_cases h5 : a.drop (k + 1) = b.drop (k + 1) <;> simp [h, h5]
theorem eq_len {α : Type} [DecidableEq α] {a b : List α} (h : ¬ (a.length : Int) = b.length) : decide (a = b) = false := decide_eq_false (fun e => h (by rw [e]))
theorem len_of {a b : List Int} (h : ((a.length : Int) == (b.length : Int)) = true) : a.length = b.length := by
  have h2 : (a.length : Int) = b.length := by simpa using h
  omega
theorem same_start (a b : List Int) : (((a.length : Int) == (b.length : Int)) && decide (a.drop 0 = b.drop 0)) = decide (a = b) := by
  rw [List.drop_zero, List.drop_zero]
  by_cases h : (a.length : Int) = b.length
  · rw [show ((a.length : Int) == (b.length : Int)) = true by simpa using h]; rfl
  · rw [show ((a.length : Int) == (b.length : Int)) = false by simpa using h, eq_len h]; rfl
theorem beq_dec {x y : Int} {c : Bool} : ((x == y) && c) = (decide (x = y) && c) := by
  by_cases h : x = y <;> simp [h]
def ringI (n m : Int) : Int := if m ≤ 0 then 0 else ((n.tmod m) + m).tmod m
theorem ringI_bd (n m : Int) (hm : 1 ≤ m) : 0 ≤ ringI n m ∧ ringI n m < m := by
  unfold ringI
  rw [if_neg (by omega)]
  have h1 : -m < n.tmod m ∧ n.tmod m < m := by
    rcases Int.lt_or_le n 0 with h | h
    · have h2 := Int.tmod_lt_of_pos (-n) (show (0 : Int) < m by omega)
      have h3 := Int.tmod_nonneg m (show 0 ≤ -n by omega)
      rw [Int.neg_tmod] at h2 h3
      omega
    · have h2 := Int.tmod_lt_of_pos n (show (0 : Int) < m by omega)
      have h3 := Int.tmod_nonneg m h
      omega
  exact ⟨Int.tmod_nonneg m (by omega), Int.tmod_lt_of_pos _ (by omega)⟩
def pickI (l : List Int) (i : Int) : Int := if l.length = 0 then 0 else l.getD (ringI i l.length).toNat default
theorem gd_of {α : Type} {l : List α} {i : Nat} {x : α} (d : α) (h : l[i]? = some x) : l.getD i d = x := by rw [List.getD_eq_getElem?_getD, h]; rfl
end Go.Proofs.YtppfniekcgnmjaaGreat.To
namespace Go.Proofs.YtppfniekcgnmjaaGreat.To
open Go Go.Sx Go.RowKit Um
end Go.Proofs.YtppfniekcgnmjaaGreat.To
namespace Go.Proofs.YtppfniekcgnmjaaGreat.To
open Go.Sx Go.RowKit
set_option maxRecDepth 20000

end Go.Proofs.YtppfniekcgnmjaaGreat.To
namespace Go.Proofs.YtppfniekcgnmjaaGreat.To
open Go.Sx Go.RowKit Um
set_option maxRecDepth 20000
theorem k_Same (a b : List Int) (Aa Ab : Option Addr) (ca cb : Nat) (w : World) (ha : Rd w 1 enInt Aa a) (hb : Rd w 1 enInt Ab b) : Calls Tryz.prog 31 #[.slice Aa a.length ca, .slice Ab b.length cb] w (fun e w' => e = .returned (.bool (decide (a = b))) ∧ Grow w w') := by
  have hla := ha.len
  have hlb := hb.len
  refine enter_pure (args := [.slice Aa a.length ca, .slice Ab b.length cb]) [sl (fun b => b < w.heap.size) 1 enInt Aa a, sl (fun b => b < w.heap.size) 1 enInt Ab b] Tryz.func31 rfl (by rw [Tryz.ntmps31]; simp) (fun g hg => by simp at hg; rcases hg with rfl | rfl; exact ⟨ha, fun _ h => h⟩; exact ⟨hb, fun _ h => h⟩) ?_
  refine cj_seq ?_
  refine cj_regionG (gj_step (y_assign rfl) rfl rfl rfl (gj_nil ?_))
  refine ej_th (cj_seq ?_)
  refine cj_regionG (gj_step (y_move rfl) rfl rfl rfl (gj_step (y_lenA Tryz.underlying23 rfl) rfl rfl rfl (gj_step (y_move rfl) rfl rfl rfl (gj_step (y_lenA Tryz.underlying23 rfl) rfl rfl rfl (gj_step (y_eql rfl rfl) rfl rfl rfl (gj_step (y_assign rfl) rfl rfl rfl (gj_nil ?_)))))))
  refine ej_th (cj_seq (cj_seq ?_))
  refine cj_regionG (gj_step (y_assign rfl) rfl rfl rfl (gj_nil ?_))
  refine ej_th (cj_block ?_)
  refine cj_lpic (X := Nat × Bool) [(0, _), (1, _), (4, _)] (fun ⟨k, ok⟩ => k ≤ a.length ∧ (ok = true → a.length = b.length) ∧ (ok && decide (a.drop k = b.drop k)) = decide (a = b)) (fun ⟨k, ok⟩ => [(5, .bool ok), (6, .int .i64 (k : Nat))]) (fun ⟨k, ok⟩ => a.length - k) (0, (a.length : Int) == (b.length : Int)) (⟨Nat.zero_le _, fun h => len_of h, same_start a b⟩) ⟨rfl, rfl, rfl, rfl, rfl, trivial⟩ ?_
  rintro ⟨k, ok⟩ ⟨hk, hle, hsk⟩
  dsimp only [List.cons_append, List.nil_append]
  refine cj_seq (cj_seq ?_)
  refine cj_regionG (gj_step (y_move rfl) rfl rfl rfl (gj_step (y_move rfl) rfl rfl rfl (gj_g 4 13 17 rfl rfl rfl rfl (fun hg13 => gj_yes rfl rfl rfl (y_move rfl) rfl rfl (gj_yes rfl rfl rfl (y_move rfl) rfl rfl (gj_yes rfl rfl rfl (y_lenA Tryz.underlying23 rfl) rfl rfl (gj_yes rfl rfl rfl (y_lss rfl rfl) rfl rfl (gj_nil rfl))))) (gj_step (y_and rfl rfl rfl) rfl rfl rfl (gj_nil ?_)))))
  refine ej_th ?_
  refine cj_cond rfl (fun h18 => ?_) (fun h18 => ?_)
  · have h18b := h18
    try simp only [sxb] at h18
    rw [Bool.and_eq_true, decide_eq_true_eq] at h18b
    have hok := h18b.1
    have hl2 := hle hok
    have hk2 := h18b.2
    obtain ⟨x, hx⟩ : ∃ x, a[k]? = some x := ⟨_, List.getElem?_eq_getElem (by omega)⟩
    obtain ⟨y, hy⟩ : ∃ y, b[k]? = some y := ⟨_, List.getElem?_eq_getElem (by omega)⟩
    rw [eq_drop a b k x y hx hy, hok, Bool.true_and] at hsk
    refine cj_skip (ej_th (cj_seq (cj_block ?_)))
    refine cj_draw (by kernel_rfl) (by kernel_rfl) (gj_step (y_move rfl) rfl rfl rfl (gj_step (y_move rfl) rfl rfl rfl (gj_step (y_ixR (reads_sl) Tryz.underlying23 Tryz.sizeOf3 rfl rfl (⟨by omega, by omega⟩)) rfl rfl rfl (gj_step (y_ld0 (reads_sl) Tryz.isAgg3 rfl (hx) rfl) rfl rfl rfl (gj_step (y_move rfl) rfl rfl rfl (gj_step (y_move rfl) rfl rfl rfl (gj_step (y_ixR (reads_sl) Tryz.underlying23 Tryz.sizeOf3 rfl rfl (⟨by omega, by omega⟩)) rfl rfl rfl (gj_step (y_ld0 (reads_sl) Tryz.isAgg3 rfl (hy) rfl) rfl rfl rfl (gj_step (y_eql rfl rfl) rfl rfl rfl (gj_step (y_assign rfl) rfl rfl rfl (gj_nil ?_)))))))))))
    refine ej_blk (ej_th ?_)
    refine cj_regionG (gj_step (y_move rfl) rfl rfl rfl (gj_step (y_add rfl rfl (by omega)) rfl rfl rfl (gj_step (y_assign rfl) rfl rfl rfl (gj_nil ?_))))
    exact ej_nx (k + 1, x == y) (by simp only; omega) ⟨by first | omega | (simp only; omega), fun _ => hle hok, by rw [← hsk, beq_dec]⟩ ⟨rfl, rfl, rfl, rfl, rfl, trivial⟩
  · have h18b := h18
    try simp only [sxb] at h18
    rw [Bool.and_eq_false_iff, decide_eq_false_iff_not] at h18b
    refine cj_exit (ej_then_exit (ej_then_exit (ej_blk_hit (ej_th (cj_seq ?_)))))
    refine cj_regionG (gj_step (y_move rfl) rfl rfl rfl (gj_step (y_assign rfl) rfl rfl rfl (gj_nil ?_)))
    refine ej_th (cj_ret ?_)
    refine ej_ret1 rfl Tryz.results31 rfl (fun w' hp => ⟨?_, hp.below⟩)
    rw [← hsk]
    cases hok : ok with
    | false => rfl
    | true =>
      have hl2 := hle hok
      have hk2 : a.length ≤ k := by rcases h18b with h | h; rw [hok] at h; cases h; omega
      rw [List.drop_of_length_le hk2, List.drop_of_length_le (show b.length ≤ k by omega)]; rfl

end Go.Proofs.YtppfniekcgnmjaaGreat.To
namespace Go.Sx
open Go.RowKit
section
variable {C : Cx} {Q : Exit → Act → World → Prop} {L : Regs} {O S : List Fact} {ops : Array Oper} {rest : List Oper} {ty : TypeId} {pos : String} {aft : Array Edge} {dst : Option Tmp} {gu : Option (Nat × Bool)} {t : TypeId} {x y : Operand}
end
end Go.Sx
namespace Go.Sx
open Go.RowKit
section
variable {C : Cx} {Q : Exit → Act → World → Prop} {L : Regs} {O S : List Fact} {ops : Array Oper} {rest : List Oper}
end
end Go.Sx
namespace Go.Sx
open Go.RowKit
/-- W' is W, but for the block b, and may have grown. -/
structure PutB (b : Nat) (o : Obj) (W W' : World) : Prop where
  os : W'.os = W.os
  tape : W'.tape = W.tape
  output : W'.output = W.output
  size : W.heap.size ≤ W'.heap.size
  same : ∀ i, i < W.heap.size → i ≠ b → W'.heap[i]? = W.heap[i]?
  at_ : W'.heap[b]? = some o
/-- As Iter; the iterator's own block b holds 'ob k' when the k-th element is handed over. -/
def IterC {α : Type} (P : Program) (gf : Nat) (lb : Array Value) (encs : α → List Value) (xs : List α) (b : Nat) (ob : Nat → Obj) (Sit : List Fact) : Prop :=
  ∀ (l : Nat) (J : Nat → Obj → World → Prop) (Jx : World → Prop) (W : World), (∀ k o W W', J k o W → Grow W W' → J k o W') → (∀ k o o' W W', J k o W → PutB b o' W W' → J k o' W') →
    (∀ k o W, J k o W → W.heap[b]? = some o ∧ ∀ g ∈ Sit, g.P W ∧ ∀ i, g.fp i → i < W.heap.size ∧ i ≠ b) → (∀ W W', Jx W → Grow W W' → Jx W') →
    (∀ k x W, xs[k]? = some x → J k (ob k) W → YieldAt (FR none) 0 P l (encs x).toArray W (fun e W' => (e = .returned (.bool true) ∧ J (k + 1) (ob k) W') ∨ (e = .returned (.bool false) ∧ Jx W'))) → J 0 (ob 0) W →
    Calls P gf (#[.func (.yield l) #[] #[]] ++ lb) W (fun e W' => (∃ v, e = .returned v) ∧ (J xs.length (ob xs.length) W' ∨ Jx W'))

section
variable {P : Program} {F : Nat → Prop} {w0 : World} {N : Nat} {S : List Fact}
/-- THE CALLER'S RULE. -/
theorem cj_rangeC {α Y Z : Type} {g : Operand} {ps : List Tmp} {assign body : Code} {Q : Exit → Act → World → Prop} {L : Regs} {O : List Fact} {gf b : Nat} {ob : Nat → Obj} {lb : Array Value} {encs : α → List Value} {xs : List α} {Sit : List Fact}
    (hseq : IterC P gf lb encs xs b ob Sit) (inv : Nat → Y → Prop) (Ox : Nat → Y → List Fact) (cz : Z → Code) (Oz : Z → List Fact) (y0 : Y) (h0 : inv 0 y0)
    (hg : val L g = some (.func (.func gf) #[] lb)) (hf : ∀ args w, (callFunc gf args).run P w = .ok (.enter gf args) w) (hps : ∀ x, (encs x).length = ps.length) (hpN : (ps.all fun p => Nat.blt p N) = true) [hO : SubO (ownB b (ob 0) :: Ox 0 y0) O] [hSit : SubO Sit S]
    (round : ∀ (l Db : Nat) (r0 r1 : Obj) k x y, xs[k]? = some x → inv k y → CJ (CR P F w0 N l) assign (BegQ (CR P F w0 N l) S l r0 r1 body (BodyQ F w0 S l Db r1 (inv (k + 1)) (fun y => ownB b (ob k) :: Ox (k + 1) y) cz Oz)) (parR (ps.zip (encs x)) L) (ownB l r0 :: ownB Db (.deferred (some [])) :: ownB b (ob k) :: Ox k y) S)
    (done : ∀ Db y, inv xs.length y → EJ ⟨P, none, F, w0, N, [⟨.collected Db, #[]⟩]⟩ Q .normal L (ownB Db (.deferred (some [])) :: ownB b (ob xs.length) :: Ox xs.length y) S)
    (stop : ∀ Db z, CJ ⟨P, none, F, w0, N, [⟨.collected Db, #[]⟩]⟩ (cz z) Q L (ownB Db (.deferred (some [])) :: Oz z) S) :
    CJ ⟨P, none, F, w0, N, []⟩ (.rangeFunc g ps.toArray assign body) Q L O S := by
  intro a w hr hp
  refine wpIn_rangeFunc (n := 0) ?_
  intro fn hfn
  obtain ⟨rec, hrec⟩ : ∃ rec : LoopState → Option Code → Loop, rec = fun st pe => { state := st, pending := pe, fn, tmps := a.tmps, params := ps.toArray, assign, body, defers := w.heap.size } := ⟨_, rfl⟩
  obtain ⟨W1, hW1⟩ : ∃ W1, (w.alloc (.deferred (some []))).alloc (.loop (rec .ready none)) = W1 := ⟨_, rfl⟩
  have hpW : Hp F w0 (ownB (w.heap.size + 1) (.loop (rec .ready none)) :: ownB w.heap.size (.deferred (some [])) :: ownB b (ob 0) :: Ox 0 y0) S W1 := by
    rw [← hW1]
    have h1 : Hp F w0 (ownB w.heap.size (.deferred (some [])) :: ownB b (ob 0) :: Ox 0 y0) S (w.alloc (.deferred (some []))) :=
      (hp.sub hO.sub (fun _ h => h)).addO ((Below.refl _ _).alloc (Nat.le_refl _) _) _ (heap_alloc_new w _) (fun b hb => by
        have : b = w.heap.size := hb
        subst this; simp)
    refine h1.addO ((Below.refl _ _).alloc (Nat.le_refl _) _) _ ?_ (fun b hb => by
      have : b = w.heap.size + 1 := hb
      subst this; simp)
    have := heap_alloc_new (w.alloc (.deferred (some []))) (.loop (rec .ready none))
    rwa [World.size_alloc] at this
  refine ⟨w.heap.size + 1, [{ target := .collected w.heap.size, args := #[] }], W1, { target := .fn (.func gf) lb, args := #[.func (.yield (w.heap.size + 1)) #[] #[]] }, W1, gf,
    #[.func (.yield (w.heap.size + 1)) #[] #[]] ++ lb, W1, ?_, ?_, fun _ _ => trivial, ?_, (fun h => by cases h), ?_⟩
  · rw [← hW1, hrec]; exact run_enterLoop_outer _ _ _ _ _
  · simp only [resolve, hr.val hg]
    simp [go_sem]
  · simp [invoke, hf]
  · refine callsIn_FR.2 ((hseq (w.heap.size + 1) (fun k o W => ∃ y, inv k y ∧ Hp F w0 (ownB (w.heap.size + 1) (.loop (rec .ready none)) :: ownB w.heap.size (.deferred (some [])) :: ownB b o :: Ox k y) S W)
      (fun W => ∃ z, Hp F w0 (ownB (w.heap.size + 1) (.loop (rec .done (some (cz z)))) :: ownB w.heap.size (.deferred (some [])) :: Oz z) S W) W1 ?_ ?_ ?_ ?_ ?_ ⟨y0, h0, hpW⟩).mono ?_)
    · rintro k o W W' ⟨y, hi, h⟩ hgr; exact ⟨y, hi, h.grow hgr⟩
    · rintro k o o' W W' ⟨y, hi, h⟩ hput
      have hlt : b < W.heap.size := ((h.own (ownB b o) (.tail _ (.tail _ (.head _)))).2 b rfl).1
      refine ⟨y, hi, h.write (f := ownB b o) (f' := ownB b o') (.tail _ _ _ _ _ (.tail _ _ _ _ _ (.head _ _ _))) hput.os hput.tape hput.output hput.size (fun i hi hne => hput.same i hi (fun e => hne e)) hput.at_ (fun i hi => ?_)⟩
      have : i = b := hi
      subst this
      exact ⟨Nat.lt_of_lt_of_le hlt hput.size, .inl rfl⟩
    · rintro k o W ⟨y, hi, h⟩
      refine ⟨h.at (.tail _ (.tail _ (.head _))), fun g hg' => ?_⟩
      have h9 := h.shared g (hSit.sub.subset hg')
      exact ⟨h9.1, fun i hi => ⟨h9.2.1 i hi, fun e => h9.2.2 (ownB b o) (.tail _ (.tail _ (.head _))) i hi e⟩⟩
    · rintro W W' ⟨z, h⟩ hgr; exact ⟨z, h.grow hgr⟩
    · rintro k x W hx ⟨y, hi, h⟩
      have hl : W.heap[w.heap.size + 1]? = some (.loop (rec .ready none)) := h.at (List.mem_cons_self ..)
      have hy := run_yield (P := P) (args := (encs x).toArray) hl (by rw [hrec]; simpa using hps x)
      rw [hrec] at hy
      refine ⟨fn, _, assign, body, hy, roundIn_of_wpIn hfn ?_⟩
      have hreg : RegsOk N [] (parR (ps.zip (encs x)) L) ⟨(ps.toArray.zip (encs x).toArray).foldl (fun tmps (t, a) => tmps.setIfInBounds t a) a.tmps, []⟩ := by
        have h1 := parR_ok (D := []) (ps.zip (encs x)) L a.tmps (fun p hp => by
          have := List.all_eq_true.1 hpN p.1 (List.of_mem_zip hp).1
          simpa [Nat.blt_eq] using this) ⟨rfl, hr.size, hr.look⟩
        have e : (ps.toArray.zip (encs x).toArray).foldl (fun tmps (t, a) => tmps.setIfInBounds t a) a.tmps = (ps.zip (encs x)).foldl (fun t p => t.setIfInBounds p.1 p.2) a.tmps := by simp
        rw [e]; exact h1
      refine wpIn_mono (round _ w.heap.size (.loop (rec .ready none)) (.loop (rec .busy none)) k x y hx hi _ W hreg h) ?_
      intro e a1 w1 hq
      cases e <;> first | exact (show False from hq).elim | skip
      obtain ⟨L1, O1, O2, hr1, hp1, hrep, hb⟩ := hq
      have hl1 : w1.heap[w.heap.size + 1]? = some (.loop (rec .ready none)) := hp1.at hrep.mem
      refine ⟨_, run_beginRound hl1 (by rw [hrec]), ?_⟩
      have hp2 := hp1.put hrep
      have hbusy : ({ rec .ready none with state := .busy } : Loop) = rec .busy none := by rw [hrec]
      rw [hbusy]
      refine wpIn_mono (hb a1 _ hr1 hp2) ?_
      intro e a2 w2 hq2
      have fin : ∀ (jump : Option Code) (Oq : List Fact), Hp F w0 (ownB (w.heap.size + 1) (.loop (rec .busy none)) :: ownB w.heap.size (.deferred (some [])) :: Oq) S w2 →
          ∃ w3, (Instr.endRound (w.heap.size + 1) jump).run P w2 = .ok (.bool jump.isNone) w3 ∧ Hp F w0 (ownB (w.heap.size + 1) (.loop (rec (if jump.isNone then .ready else .done) jump)) :: ownB w.heap.size (.deferred (some [])) :: Oq) S w3 := fun jump Oq hq3 => by
        have hl2 : w2.heap[w.heap.size + 1]? = some (.loop (rec .busy none)) := hq3.at (List.mem_cons_self ..)
        refine ⟨_, run_endRound (P := P) jump hl2, ?_⟩
        have hb2 : ({ rec .busy none with state := if jump.isNone then .ready else .done, pending := jump } : Loop) = rec (if jump.isNone then .ready else .done) jump := by rw [hrec]
        rw [hb2]
        exact hq3.put (.head _ _ _)
      cases e with
      | normal =>
        obtain ⟨y', hi', hp3⟩ := hq2
        obtain ⟨w3, hr3, hp4⟩ := fin none _ hp3
        exact ⟨_, w3, hr3, .inl ⟨rfl, y', hi', hp4⟩⟩
      | ret =>
        obtain ⟨z, hz, hp3⟩ := hq2
        obtain ⟨w3, hr3, hp4⟩ := fin (some .ret) _ hp3
        exact ⟨_, w3, hr3, .inr ⟨rfl, z, by rw [hz]; exact hp4⟩⟩
      | exit id =>
        obtain ⟨z, hz, hp3⟩ := hq2
        obtain ⟨w3, hr3, hp4⟩ := fin (some (.exit id)) _ hp3
        exact ⟨_, w3, hr3, .inr ⟨rfl, z, by rw [hz]; exact hp4⟩⟩
      | goto t => exact (show False from hq2).elim
      | panic ch => exact (show False from hq2).elim
      | outgrown => exact (show False from hq2).elim
    · rintro e W2 ⟨⟨v, rfl⟩, h⟩
      have hd : ∀ (Db : Nat), RegsOk N [⟨.collected Db, #[]⟩] L { a with defers := [{ target := .collected Db, args := #[] }] ++ a.defers } := fun Db => by
        have := hr.defers
        exact ⟨by show [_] ++ a.defers = _; rw [this]; rfl, hr.size, hr.look⟩
      rcases h with ⟨y, hi, h⟩ | ⟨z, h⟩
      · have hl : W2.heap[w.heap.size + 1]? = some (.loop (rec .ready none)) := h.at (List.mem_cons_self ..)
        refine ⟨none, _, (by have := run_endLoop (P := P) hl (by rw [hrec]; simp); rw [hrec] at this; exact this), ?_⟩
        exact done w.heap.size y hi _ _ (hd _) ((h.put (.head _ _ _)).sub (List.sublist_cons_self ..) (fun _ h => h))
      · have hl : W2.heap[w.heap.size + 1]? = some (.loop (rec .done (some (cz z)))) := h.at (List.mem_cons_self ..)
        refine ⟨some (cz z), _, (by have := run_endLoop (P := P) hl (by rw [hrec]; simp); rw [hrec] at this; exact this), ?_⟩
        exact stop w.heap.size z _ _ (hd _) ((h.put (.head _ _ _)).sub (List.sublist_cons_self ..) (fun _ h => h))
end

section
variable {C : Cx} {Q : Exit → Act → World → Prop} {L : Regs} {O S : List Fact}
/-- From here on, the block b is one's own (nothing that is known else lies there). -/
theorem cj_ownS {W : World} {cd : Code} (b : Nat) (o : Obj) (S' : List Fact) (hb : b < W.heap.size) (hm : ownB b o ∈ S) (hS : ∀ g ∈ S', g ∈ S ∧ ∀ i, g.fp i → i ≠ b) (k : CJ ⟨C.P, C.ro, fun i => i < W.heap.size ∧ i ≠ b, W, C.N, C.D⟩ cd Q L [ownB b o] S') : CJ (C.rb W) cd Q L O S := by
  intro a w hr hp
  refine k a w hr ⟨hp.os, hp.tape, hp.output, hp.size, fun i hi => ⟨hi.1, (hp.fr i hi.1).2⟩, fun g hg => ?_, by simp, fun g hg => ⟨(hp.shared g (hS g hg).1).1, (hp.shared g (hS g hg).1).2.1, fun q hq i hi hqi => ?_⟩⟩
  · rw [List.mem_singleton.1 hg]
    refine ⟨(hp.shared _ hm).1, fun i hi => ?_⟩
    have : i = b := hi
    subst this
    exact ⟨Nat.lt_of_lt_of_le hb hp.size, fun h => h.2 rfl⟩
  · rw [List.mem_singleton.1 hq] at hqi
    exact (hS g hg).2 i hi hqi
theorem Hp.putB {W w : World} {b : Nat} {o : Obj} (hp : Hp (fun i => i < W.heap.size ∧ i ≠ b) W O S w) (h : ownB b o ∈ O) : PutB b o W w :=
  ⟨hp.os, hp.tape, hp.output, hp.size, fun i h1 h2 => (hp.fr i ⟨h1, h2⟩).2, (hp.own _ h).1⟩
/-- The end of a round that has written to its own block. -/
theorem ej_nxH {F' : Nat → Prop} {w0' : World} {X : Type} {inv : X → Prop} {Lx : X → Regs} {J : X → World → Prop} {μ : X → Nat} {m : Nat} (x' : X) (hm : μ x' < m) (hi : inv x') (hL : subR L (Lx x')) (hJ : ∀ w, Hp F' w0' O S w → J x' w) :
    EJ ⟨C.P, C.ro, F', w0', C.N, C.D⟩ (Exit.then (fun a w => ∃ x', μ x' < m ∧ LoopB C inv Lx J x' a w) Q) .normal L O S := fun _ w hr hp => ⟨x', hm, hi, hr.subR hL, hJ w hp⟩
end
end Go.Sx
namespace Go.Sx
open Go.RowKit
abbrev enB (n : Nat) : List Value := [.int .u8 (n : Nat)]
theorem enB_len (x : Nat) : (enB x).length = 1 := rfl
def bytesN (l : List Nat) : ByteArray := ⟨(l.map UInt8.ofNat).toArray⟩
theorem foldl_push : ∀ (l : List Nat) (s : ByteArray), (l.map (fun n : Nat => (n : Int))).foldl (fun r (n : Int) => r.push (UInt8.ofNat n.toNat)) s = ⟨s.data ++ (l.map UInt8.ofNat).toArray⟩
  | [], s => by simp
  | n :: l, s => by
    rw [List.map_cons, List.foldl_cons, foldl_push l]
    simp [ByteArray.push]
theorem replicate_enB (n : Nat) : (List.replicate n (0 : Nat)).flatMap enB = List.replicate n (.int .u8 0) := by
  induction n with
  | zero => rfl
  | succ n ih => rw [List.replicate_succ, List.flatMap_cons, ih, List.replicate_succ]; rfl
section
variable {C : Cx} {L : Regs} {O S : List Fact} {ty : TypeId} {pos : String} {aft : Array Edge} {dst : Option Tmp} {gu : Option (Nat × Bool)} {t t' : TypeId} {x : Operand}
theorem y_bytesS {e m c : Nat} {A : Option Addr} {xs : List Nat} (hr0 : Reads C O S 1 enB A xs) (hne : xs ≠ []) (hm : m = xs.length) (hs : C.P.underlying t = some (.slice e)) (he : C.P.underlying e = some (.int .u8)) (hd : C.P.underlying t' = some .string) (hx : val L x = some (.slice A m c)) :
    Yi C ⟨dst, .convert t t' x, ty, pos, aft, gu⟩ L O S (.string (bytesN xs)) :=
  yi_val (by intro c h; cases h) fun a w hr hp => by
    subst hm
    obtain ⟨ad, rfl, hc⟩ := hr0 w hp hne
    have hl : (loadCells ad xs.length).run C.P w = .ok ((xs.map (fun n : Nat => (n : Int))).map (Value.int .u8)).toArray w := by
      have h1 := run_loadCells_list (P := C.P) w ad ((xs.map (fun n : Nat => (n : Int))).map (Value.int .u8)) fun j v hj => by
        rw [List.getElem?_map, List.getElem?_map] at hj
        cases hxj : xs[j]? with
        | none => rw [hxj] at hj; cases hj
        | some u =>
          rw [hxj] at hj
          have h2 := hc j u 0 (.int .u8 (u : Nat)) hxj rfl
          rw [Nat.mul_one, Nat.add_zero] at h2
          rw [h2]; exact hj
      rw [List.length_map, List.length_map] at h1
      exact h1
    have h3 := run_bytesToString (P := C.P) w ad xs.length c _ hl
    rw [foldl_push] at h3
    simp only [execOp, hr.val hx]
    rw [show (bytesN xs) = (⟨ByteArray.empty.data ++ (xs.map UInt8.ofNat).toArray⟩ : ByteArray) by simp [bytesN]]
    simp [run_convert_bytes_string w t t' e (some ad) xs.length c hs he hd, h3]
end
end Go.Sx
namespace Go.Proofs.YtppfniekcgnmjaaGreat.Tk
open Go Go.Sx Go.RowKit Um
theorem wrap8 {n : Int} (h : 0 ≤ n) (h2 : n < 256) : IntKind.u8.wrap n = n := by
  simp only [IntKind.wrap, IntKind.bits, IntKind.signed]
  simp
  omega
/-- The digits of a number, the last one first, with their places. -/
def digL (n m : Nat) : List (Nat × Nat) := (List.range m).map fun i => (i, n / 10 ^ i % 10)
theorem digL_get {n m k : Nat} {x : Nat × Nat} (h : (digL n m)[k]? = some x) : k < m ∧ x = (k, n / 10 ^ k % 10) := by
  unfold digL at h
  rw [List.getElem?_map] at h
  cases hk : (List.range m)[k]? with
  | none => rw [hk] at h; cases h
  | some j =>
    rw [hk] at h
    obtain ⟨h1, h2⟩ := List.getElem?_eq_some_iff.1 hk
    rw [List.length_range] at h1
    rw [List.getElem_range] at h2
    subst h2
    exact ⟨h1, (Option.some.inj h).symm⟩
theorem digL_at (n : Nat) {m k : Nat} (h : k < m) : (digL n m)[k]? = some (k, n / 10 ^ k % 10) := by
  unfold digL
  rw [List.getElem?_map, List.getElem?_range h]; rfl
theorem digL_len (n m : Nat) : (digL n m).length = m := by simp [digL]
/-- the code's bytes once the last k ones are there -/
def codF (full k : Nat) : List Nat := (List.range 10).map fun j => if 10 - k ≤ j then 48 + full / 10 ^ (9 - j) % 10 else 0
theorem codF_len (full k : Nat) : (codF full k).length = 10 := by simp [codF]
theorem codF_0 (full : Nat) : codF full 0 = List.replicate 10 0 := rfl
theorem codF_set (full : Nat) {k : Nat} (h : k < 10) : (codF full k).set (9 - k) (48 + full / 10 ^ k % 10) = codF full (k + 1) := by
  apply List.ext_getElem?
  intro j
  rw [List.getElem?_set, codF_len]
  unfold codF
  rw [List.getElem?_map, List.getElem?_map]
  by_cases hj : j < 10
  · rw [List.getElem?_range hj, Option.map_some, Option.map_some]
    by_cases e : 9 - k = j
    · rw [if_pos e, if_pos (by omega), if_pos (by omega), show 9 - j = k by omega]
    · rw [if_neg e]
      by_cases h2 : 10 - k ≤ j
      · rw [if_pos h2, if_pos (by omega)]
      · rw [if_neg h2, if_neg (by omega)]
  · rw [List.getElem?_eq_none (by simp; omega), if_neg (by omega)]; rfl
/-- the number that a code's ten digits say -/
def fullN (n : Nat) : Nat := 100 * n + 98 - 100 * n % 97
def codeS (n : Nat) : ByteArray := bytesN (codF (fullN n) 10)
theorem full_bd {n : Nat} (h : n ≤ 99999999) : fullN n < 10000000000 := by unfold fullN; omega
def CodS (n : Int) : ByteArray := if btw 1 n 99999999 then codeS n.toNat else ⟨#[]⟩
def CodE (n : Int) : Int := if btw 1 n 99999999 then 0 else 7
end Go.Proofs.YtppfniekcgnmjaaGreat.Tk
namespace Go.Proofs.YtppfniekcgnmjaaGreat.Tk
open Go Go.Sx Go.RowKit
theorem eq_drop {α : Type} [DecidableEq α] (a b : List α) (k : Nat) (x y : α) (hx : a[k]? = some x) (hy : b[k]? = some y) : decide (a.drop k = b.drop k) = (decide (x = y) && decide (a.drop (k + 1) = b.drop (k + 1))) := by
  obtain ⟨h1, h2⟩ := List.getElem?_eq_some_iff.1 hx
  obtain ⟨h3, h4⟩ := List.getElem?_eq_some_iff.1 hy
  rw [List.drop_eq_getElem_cons h1, h2, List.drop_eq_getElem_cons h3, h4]
  by_cases h : x = y <;> by_cases h5 : a.drop (k + 1) = b.drop (k + 1) <;> simp [h, h5]
theorem eq_len {α : Type} [DecidableEq α] {a b : List α} (h : ¬ (a.length : Int) = b.length) : decide (a = b) = false := decide_eq_false (fun e => h (by rw [e]))
theorem len_of {a b : List Int} (h : ((a.length : Int) == (b.length : Int)) = true) : a.length = b.length := by
  have h2 : (a.length : Int) = b.length := by simpa using h
  omega
theorem same_start (a b : List Int) : (((a.length : Int) == (b.length : Int)) && decide (a.drop 0 = b.drop 0)) = decide (a = b) := by
  rw [List.drop_zero, List.drop_zero]
  by_cases h : (a.length : Int) = b.length
  · rw [show ((a.length : Int) == (b.length : Int)) = true by simpa using h]; rfl
  · rw [show ((a.length : Int) == (b.length : Int)) = false by simpa using h, eq_len h]; rfl
theorem beq_dec {x y : Int} {c : Bool} : ((x == y) && c) = (decide (x = y) && c) := by
  by_cases h : x = y <;> simp [h]
def ringI (n m : Int) : Int := if m ≤ 0 then 0 else ((n.tmod m) + m).tmod m
theorem ringI_bd (n m : Int) (hm : 1 ≤ m) : 0 ≤ ringI n m ∧ ringI n m < m := by
  unfold ringI
  rw [if_neg (by omega)]
  have h1 : -m < n.tmod m ∧ n.tmod m < m := by
    rcases Int.lt_or_le n 0 with h | h
    · have h2 := Int.tmod_lt_of_pos (-n) (show (0 : Int) < m by omega)
      have h3 := Int.tmod_nonneg m (show 0 ≤ -n by omega)
      rw [Int.neg_tmod] at h2 h3
      omega
    · have h2 := Int.tmod_lt_of_pos n (show (0 : Int) < m by omega)
      have h3 := Int.tmod_nonneg m h
      omega
  exact ⟨Int.tmod_nonneg m (by omega), Int.tmod_lt_of_pos _ (by omega)⟩
def pickI (l : List Int) (i : Int) : Int := if l.length = 0 then 0 else l.getD (ringI i l.length).toNat default
theorem gd_of {α : Type} {l : List α} {i : Nat} {x : α} (d : α) (h : l[i]? = some x) : l.getD i d = x := by rw [List.getD_eq_getElem?_getD, h]; rfl
end Go.Proofs.YtppfniekcgnmjaaGreat.Tk
namespace Go.Proofs.YtppfniekcgnmjaaGreat.Tk
open Go.Sx Go.RowKit
set_option maxRecDepth 20000

end Go.Proofs.YtppfniekcgnmjaaGreat.Tk
namespace Go.Proofs.YtppfniekcgnmjaaGreat.Tk
open Go.Sx Go.RowKit Um
set_option maxRecDepth 20000
theorem k_within (n lo hi : Int) (w : World)  : Calls Tryz.prog 113 #[.int .i64 n, .int .i64 lo, .int .i64 hi] w (fun e w' => e = .returned (.bool (btw lo n hi)) ∧ Grow w w') := by
  refine enter_pure (args := [.int .i64 n, .int .i64 lo, .int .i64 hi]) [] Tryz.func113 rfl (by rw [Tryz.ntmps113]; simp) (by simp) ?_
  refine cj_seq ?_
  refine cj_regionG (gj_step (y_assign rfl) rfl rfl rfl (gj_nil ?_))
  refine ej_th (cj_seq ?_)
  refine cj_regionG (gj_step (y_move rfl) rfl rfl rfl (gj_step (y_move rfl) rfl rfl rfl (gj_step (y_geq rfl rfl) rfl rfl rfl (gj_step (y_move rfl) rfl rfl rfl (gj_g 3 10 13 rfl rfl rfl rfl (fun hg10 => gj_yes rfl rfl rfl (y_move rfl) rfl rfl (gj_yes rfl rfl rfl (y_move rfl) rfl rfl (gj_yes rfl rfl rfl (y_leq rfl rfl) rfl rfl (gj_nil rfl)))) (gj_step (y_and rfl rfl rfl) rfl rfl rfl (gj_step (y_assign rfl) rfl rfl rfl (gj_nil ?_))))))))
  refine ej_th (cj_ret ?_)
  exact ej_ret1 rfl Tryz.results113 rfl (fun w' hp => ⟨rfl, hp.below⟩)

theorem k_digits1 (n m b3 b2 : Nat) (hn : n ≤ 4611686018427387904) (hm : m ≤ 100) : IterC Tryz.prog 163 #[.pointer (some ⟨b3, 0, none⟩), .pointer (some ⟨b2, 0, none⟩)] (fun p : Nat × Nat => [.int .i64 (p.1 : Nat), .int .i64 (p.2 : Nat)]) (digL n m) b2 (fun k => cellsB 3 [.int .i64 (n / 10 ^ k : Nat)]) [ownB b3 (cellsB 3 [.int .i64 (m : Nat)])] := by
  intro l J Jx w hgr hput hfacts hgx hround hJ0
  refine enter_pure (args := [.func (.yield l) #[] #[], .pointer (some ⟨b3, 0, none⟩), .pointer (some ⟨b2, 0, none⟩)]) [ownB b3 (cellsB 3 [.int .i64 (m : Nat)])] Tryz.func163 rfl (by rw [Tryz.ntmps163]; simp) (fun g hg => ⟨((hfacts _ _ _ hJ0).2 g hg).1, fun i hi => (((hfacts _ _ _ hJ0).2 g hg).2 i hi).1⟩) ?_
  refine cj_seq ?_
  refine cj_regionG (gj_step (y_loadS1 Tryz.isAgg3 rfl rfl) rfl rfl rfl (gj_step (y_move rfl) rfl rfl rfl (gj_nil ?_)))
  refine ej_th (cj_block ?_)
  refine cj_loopB (X := Nat) (fun k => k ≤ m) (fun k => [(0, .func (.yield l) #[] #[]), (1, .pointer (some ⟨b3, 0, none⟩)), (2, .pointer (some ⟨b2, 0, none⟩)), (5, .int .i64 (m : Nat)), (6, .int .i64 (k : Nat))]) (fun k => fun W => J k (cellsB 3 [.int .i64 (n / 10 ^ k : Nat)]) W) [ownB b3 (cellsB 3 [.int .i64 (m : Nat)])] (fun k => m - k) 0 (Nat.zero_le _) ⟨rfl, rfl, rfl, rfl, rfl, trivial⟩ (fun w1 hp => hgr _ _ _ _ hJ0 hp.below) (fun x W h g hg => ⟨((hfacts _ _ _ h).2 g hg).1, fun i hi => (((hfacts _ _ _ h).2 g hg).2 i hi).1⟩) ?_
  rintro k W hk hJW
  refine cj_seq ?_
  refine cj_regionG (gj_step (y_lss rfl rfl) rfl rfl rfl (gj_nil ?_))
  refine ej_th (cj_seq ?_)
  refine cj_cond rfl (fun h7 => ?_) (fun h7 => ?_)
  · have h7b := h7
    try simp only [sxb] at h7
    have hq0 : n / 10 ^ k ≤ n := Nat.div_le_self _ _
    have hq : ((n / 10 ^ k : Nat) : Int) ≤ 9223372036854775807 := Int.ofNat_le.2 (show n / 10 ^ k ≤ 9223372036854775807 by omega)
    refine cj_skip (ej_th (cj_seq (cj_block (cj_seq ?_))))
    refine cj_regionG (gj_step (y_move rfl) rfl rfl rfl (gj_step (y_assign rfl) rfl rfl rfl (gj_nil ?_)))
    refine ej_th (cj_seq (cj_seq ?_))
    refine cj_addS (ownB b2 (cellsB 3 [.int .i64 (n / 10 ^ k : Nat)])) (fun w1 hp => ⟨(hfacts _ _ _ (hgr _ _ _ _ hJW hp.below)).1, fun i hi => ⟨by have hi : i = b2 := hi; subst hi; exact (Array.getElem?_eq_some_iff.1 (hfacts _ _ _ (hgr _ _ _ _ hJW hp.below)).1).1, by simp⟩⟩) ?_
    refine cj_region ?_
    refine oj_step (y_move rfl) rfl rfl rfl ?_
    refine oj_step (y_move rfl) rfl rfl rfl ?_
    refine oj_step (y_loadS1 Tryz.isAgg3 rfl rfl) rfl rfl rfl ?_
    refine oj_step (y_rem rfl rfl (Int.natCast_nonneg _) (by omega)) rfl rfl rfl ?_
    rw [show ((n / 10 ^ k : Nat) : Int) % 10 = ((n / 10 ^ k % 10 : Nat) : Int) by omega]
    refine oj_yieldB (T := fun b W' => if b = true then J (k + 1) (cellsB 3 [.int .i64 (n / 10 ^ k : Nat)]) W' else Jx W') [] rfl rfl rfl (fun w1 hp => hround k (k, n / 10 ^ k % 10) w1 (digL_at n (by omega)) (hgr _ _ _ _ hJW hp.below)) rfl (fun b W h g hg => by cases hg) (fun b13 W13 hT13 => ?_)
    refine oj_step (y_not rfl) rfl rfl rfl ?_
    refine oj_nil ?_
    refine ej_th ?_
    refine cj_cond rfl (fun h14 => ?_) (fun h14 => ?_)
    · have h14b := h14
      try simp only [sxb] at h14
      have hb : b13 = false := not_t h14b
      subst hb
      have hT : Jx W13 := hT13
      refine cj_ret (ej_then_ret (ej_blk_ret (ej_then_ret (ej_then_ret (ej_blk_ret ?_)))))
      exact ej_ret0 rfl Tryz.results163 (fun w' hp => ⟨⟨_, rfl⟩, .inr (hgx _ _ hT hp.below)⟩)
    · have h14b := h14
      try simp only [sxb] at h14
      have hb : b13 = true := not_f h14b
      subst hb
      have hT : J (k + 1) (cellsB 3 [.int .i64 (n / 10 ^ k : Nat)]) W13 := hT13
      refine cj_skip (ej_th ?_)
      refine cj_addS (ownB b2 (cellsB 3 [.int .i64 (n / 10 ^ k : Nat)])) (fun w1 hp => ⟨(hfacts _ _ _ (hgr _ _ _ _ hT hp.below)).1, fun i hi => ⟨by have hi : i = b2 := hi; subst hi; exact (Array.getElem?_eq_some_iff.1 (hfacts _ _ _ (hgr _ _ _ _ hT hp.below)).1).1, by simp⟩⟩) ?_
      refine cj_ownS b2 (cellsB 3 [.int .i64 (n / 10 ^ k : Nat)]) [] (Array.getElem?_eq_some_iff.1 (hfacts _ _ _ hT).1).1 (List.mem_cons_self ..) (fun g hg => by cases hg) ?_
      refine cj_region ?_
      refine oj_step (y_load1 Tryz.isAgg3 rfl rfl) rfl rfl rfl ?_
      refine oj_step (y_quo rfl rfl (⟨Int.natCast_nonneg _, hq, by decide⟩)) rfl rfl rfl ?_
      refine oj_store rfl rfl rfl rfl Tryz.sizeOf3 rfl ?_
      refine oj_nil ?_
      refine ej_blk (ej_th ?_)
      refine cj_regionG (gj_step (y_add rfl rfl (by omega)) rfl rfl rfl (gj_step (y_move rfl) rfl rfl rfl (gj_nil ?_)))
      rw [show ((n / 10 ^ k : Nat) : Int) / 10 = ((n / 10 ^ (k + 1) : Nat) : Int) by rw [Nat.pow_succ, ← Nat.div_div_eq_div_mul]; omega, show ((k : Nat) : Int) + 1 = ((k + 1 : Nat) : Int) by omega]
      exact ej_nxH (k + 1) (by omega) (by omega) ⟨rfl, rfl, rfl, rfl, rfl, trivial⟩ (fun w1 hp => hput _ _ _ _ _ hT (hp.putB (List.mem_cons_self ..)))
  · have h7b := h7
    try simp only [sxb] at h7
    have hkm : k = m := by omega
    subst hkm
    refine cj_exit (ej_then_exit (ej_then_exit (ej_blk_hit ?_)))
    exact ej_end0 rfl Tryz.results163 (fun w' hp => ⟨⟨_, rfl⟩, .inl (by rw [digL_len]; exact hgr _ _ _ _ hJW hp.below)⟩)

theorem k_digits (n m : Nat) (w : World)  : Calls Tryz.prog 141 #[.int .i64 (n : Nat), .int .i64 (m : Nat)] w (fun e w' => ∃ z : Nat × Nat, e = .returned (.func (.func 163) #[] #[.pointer (some ⟨z.1, 0, none⟩), .pointer (some ⟨z.2, 0, none⟩)]) ∧ Giv [] w w' [ownB z.1 (cellsB 3 [.int .i64 (m : Nat)]), ownB z.2 (cellsB 3 [.int .i64 (n : Nat)])]) := by
  refine enterO (args := [.int .i64 (n : Nat), .int .i64 (m : Nat)]) [] [] Tryz.func141 rfl (by rw [Tryz.ntmps141]; simp) (fun g hg => by cases hg) (.nil) (fun g hg => by cases hg) ?_
  refine cj_seq (cj_region ?_)
  refine oj_box rfl rfl rfl (fun b2 => ?_)
  refine oj_box rfl rfl rfl (fun b3 => ?_)
  refine oj_step (y_assign rfl) rfl rfl rfl ?_
  refine oj_nil ?_
  refine ej_th (cj_seq ?_)
  refine cj_regionG (gj_step (y_makeFunc rfl rfl) rfl rfl rfl (gj_step (y_assign rfl) rfl rfl rfl (gj_nil ?_)))
  refine ej_th (cj_ret ?_)
  exact ej_ret1 rfl Tryz.results141 rfl (fun w' hp => ⟨(b3, b2), rfl, hp.givT _⟩)

end Go.Proofs.YtppfniekcgnmjaaGreat.Tk
namespace Go.Proofs.YtppfniekcgnmjaaGreat.Tk
open Go.Sx Go.RowKit
set_option maxRecDepth 20000

end Go.Proofs.YtppfniekcgnmjaaGreat.Tk
namespace Go.Proofs.YtppfniekcgnmjaaGreat.Tk
open Go.Sx Go.RowKit Um
set_option maxRecDepth 20000
set_option maxHeartbeats 400000 in
theorem k_code (n : Nat) (w : World) (hn : n ≤ 99999999) : Calls Tryz.prog 114 #[.int .i64 (n : Nat)] w (fun e w' => e = .returned (.string (codeS n)) ∧ Grow w w') := by
  have hfb := full_bd hn
  refine enter_pureM (args := [.int .i64 (n : Nat)]) [] Tryz.func114 rfl (by rw [Tryz.ntmps114]; simp) (fun g hg => by cases hg) ?_
  refine cj_seq ?_
  refine cj_regionG (gj_step (y_assign rfl) rfl rfl rfl (gj_nil ?_))
  refine ej_th (cj_seq ?_)
  refine cj_regionG (gj_step (y_move rfl) rfl rfl rfl (gj_step (y_mul rfl rfl (by omega)) rfl rfl rfl (gj_step (y_add rfl rfl (by omega)) rfl rfl rfl (gj_step (y_move rfl) rfl rfl rfl (gj_step (y_mul rfl rfl (by omega)) rfl rfl rfl (gj_step (y_rem rfl rfl (by omega) (by omega)) rfl rfl rfl (gj_step (y_sub rfl rfl (by omega)) rfl rfl rfl (gj_step (y_assign rfl) rfl rfl rfl (gj_nil ?_)))))))))
  refine ej_th (cj_seq (cj_region ?_))
  refine oj_makeSlice1 (n := 10) Tryz.underlying255 Tryz.type5 rfl rfl rfl rfl rfl (by decide) (by decide) rfl (fun b14 => ?_)
  refine oj_litOw (b := b14) (e := 5) (c := 10) (sz := 1) (enc := enB) (codF (fullN n) 0) rfl (by rw [codF_0]; exact replicate_enB 10) rfl (by unfold maxLen; decide) ?_
  refine oj_alloc Tryz.zeroValue255 rfl rfl (fun b4 => ?_)
  refine oj_store rfl rfl rfl rfl Tryz.sizeOf255 rfl ?_
  refine oj_nil ?_
  refine ej_th (cj_seq (cj_seq (cj_region ?_)))
  refine oj_step (y_move rfl) rfl rfl rfl ?_
  rw [show (100 : Int) * ((n : Nat) : Int) + 98 - 100 * ((n : Nat) : Int) % 97 = ((fullN n : Nat) : Int) by unfold fullN; omega]
  refine oj_callL (X := Nat × Nat) (fun z => .func (.func 163) #[] #[.pointer (some ⟨z.1, 0, none⟩), .pointer (some ⟨z.2, 0, none⟩)]) [] (fun z => [ownB z.1 (cellsB 3 [.int .i64 (10 : Nat)]), ownB z.2 (cellsB 3 [.int .i64 ((fullN n) : Nat)])]) Tryz.call141 rfl rfl (fun w1 hp => k_digits (fullN n) 10 w1) rfl ?_
  rintro ⟨b3, b2⟩
  dsimp only [List.cons_append, List.nil_append]
  refine oj_nil ?_
  refine ej_th (cj_block ?_)
  refine cj_frzS (O' := [ownB b2 (cellsB 3 [.int .i64 ((fullN n) : Nat)]), ownB b4 (cellsB 255 [.slice (some ⟨b14, 0, none⟩) 10 10]), ow 5 1 enB (some ⟨b14, 0, none⟩) 10 (codF (fullN n) 0)]) (ownB b3 (cellsB 3 [.int .i64 (10 : Nat)])) (ownB b3 (cellsB 3 [.int .i64 (10 : Nat)])) (fun w1 hp => (hp.own _ (List.mem_cons_self ..)).1) (fun b hb => .inl hb) ?_
  refine cj_rangeC (k_digits1 (fullN n) 10 b3 b2 (by omega) (by decide)) (Y := Unit) (Z := Empty) (fun _ _ => True) (fun k _ => [ownB b4 (cellsB 255 [.slice (some ⟨b14, 0, none⟩) 10 10]), ow 5 1 enB (some ⟨b14, 0, none⟩) 10 (codF (fullN n) k)]) Empty.elim Empty.elim () trivial rfl Tryz.call163 (fun _ => rfl) rfl (hO := ?_) ?_ ?_ ?_
  · rw [Nat.pow_zero, Nat.div_one]; infer_instance
  · rintro lo Db r0 r1 k p _ hp9 -
    obtain ⟨hk, rfl⟩ := digL_get hp9
    dsimp only [List.cons_append, List.nil_append]
    refine cj_seq ?_
    refine cj_regionG (gj_step (y_assign rfl) rfl rfl rfl (gj_nil ?_))
    refine ej_th ?_
    refine cj_regionG (gj_step (y_assign rfl) rfl rfl rfl (gj_nil ?_))
    refine ej_beg (cj_block (cj_region ?_))
    refine oj_step (y_load1 Tryz.isAgg255 rfl rfl) rfl rfl rfl ?_
    refine oj_step (y_move rfl) rfl rfl rfl ?_
    refine oj_step (y_sub rfl rfl (by omega)) rfl rfl rfl ?_
    rw [show (9 : Int) - ((k : Nat) : Int) = ((9 - k : Nat) : Int) by omega]
    refine oj_step (y_move rfl) rfl rfl rfl ?_
    refine oj_step (y_add rfl rfl (by omega)) rfl rfl rfl ?_
    rw [show (48 : Int) + (((fullN n) / 10 ^ k % 10) : Nat) = ((48 + ((fullN n) / 10 ^ k % 10) : Nat) : Int) by omega]
    refine oj_step (y_conv Tryz.underlying3 Tryz.underlying5 rfl) rfl rfl rfl ?_
    rw [wrap8 (by omega) (by omega)]
    refine oj_step (y_ixRm (m := 10) (xs := codF (fullN n) k) (codF_len _ _).symm (reads_ow enB_len) Tryz.underlying255 Tryz.sizeOf5 rfl rfl ⟨by omega, by omega⟩) rfl rfl rfl ?_
    refine oj_storeE (i := 9 - k) (u := 48 + ((fullN n) / 10 ^ k % 10)) rfl rfl rfl rfl Tryz.sizeOf5 (fun _ => rfl) (by rw [codF_len]; omega) ?_
    refine oj_nil ?_
    refine ej_blk ?_
    rw [codF_set _ hk]
    exact ej_rdS () trivial (fun _ h => h)
  · rintro Db _ -
    rw [digL_len]
    refine ej_blk (ej_th (cj_seq ?_))
    refine cj_regionG (gj_step (y_load1 Tryz.isAgg255 rfl rfl) rfl rfl rfl (gj_step (y_bytesS (xs := codF (fullN n) 10) (reads_ow enB_len) (fun h => by have h9 := codF_len (fullN n) 10; rw [h] at h9; cases h9) (codF_len _ _).symm Tryz.underlying255 Tryz.underlying5 Tryz.underlying9 rfl) rfl rfl rfl (gj_step (y_assign rfl) rfl rfl rfl (gj_nil ?_))))
    refine ej_th (cj_ret ?_)
    exact ej_retM1 rfl Tryz.results114 rfl (fun w' hp => ⟨rfl, hp.below⟩)
  · intro Db z; exact z.elim

theorem k_Code (n : Int) (w : World)  : Calls Tryz.prog 88 #[.int .i64 n] w (fun e w' => e = .returned (.tuple #[.string (CodS n), .int .i64 (CodE n)]) ∧ Grow w w') := by
  refine enter_pure (args := [.int .i64 n]) [] Tryz.func88 rfl (by rw [Tryz.ntmps88]; simp) (by simp) ?_
  refine cj_seq ?_
  refine cj_regionG (gj_step (y_assign rfl) rfl rfl rfl (gj_step (y_assign rfl) rfl rfl rfl (gj_nil ?_)))
  refine ej_th (cj_seq (cj_seq ?_))
  refine cj_regionG ?_
  refine gj_step (y_move rfl) rfl rfl rfl (?_)
  refine gj_step (y_call Tryz.call113 rfl (fun w hp => k_within _ _ _ w)) rfl rfl rfl ?_
  refine gj_step (y_not rfl) rfl rfl rfl (?_)
  refine gj_nil ?_
  refine ej_th ?_
  refine cj_cond rfl (fun h6 => ?_) (fun h6 => ?_)
  · have h6b := h6
    try simp only [sxb] at h6
    refine cj_seq ?_
    refine cj_regionG (gj_step (y_assign rfl) rfl rfl rfl (gj_step (y_assign rfl) rfl rfl rfl (gj_nil ?_)))
    refine ej_th (cj_ret (ej_then_ret ?_))
    refine ej_ret2 rfl Tryz.results88 rfl rfl (fun w' hp => ⟨?_, hp.below⟩)
    rw [CodS, CodE, not_t h6b]; rfl
  · have h6b := h6
    try simp only [sxb] at h6
    have hb := btw_t (not_f h6b)
    refine cj_skip (ej_th (cj_seq ?_))
    refine cj_regionG ?_
    refine gj_step (y_move rfl) rfl rfl rfl (?_)
    refine gj_step (y_call Tryz.call114 rfl (fun w hp => by
      have h := k_code n.toNat w (by omega)
      rw [Int.toNat_of_nonneg (by omega)] at h
      exact h)) rfl rfl rfl ?_
    refine gj_step (y_assign rfl) rfl rfl rfl (gj_step (y_assign rfl) rfl rfl rfl (?_))
    refine gj_nil ?_
    refine ej_th (cj_ret ?_)
    refine ej_ret2 rfl Tryz.results88 rfl rfl (fun w' hp => ⟨?_, hp.below⟩)
    rw [CodS, CodE, not_f h6b]; rfl

end Go.Proofs.YtppfniekcgnmjaaGreat.Tk
namespace Go.Proofs.YtppfniekcgnmjaaGreat.Le
open Go Go.Sx Go.RowKit Um
def spanOk (lo hi most : Int) : Bool := decide (0 ≤ lo) && decide (lo ≤ hi) && decide (hi ≤ most)
def badTerms (fr fl cap : Int) : Bool := !(btw 0 fr 64) || !(btw 0 cap 1073741824) || !(btw 0 fl cap)
def errT (b : Bool) : Int := if b then 22 else 0
theorem errT_ne (b : Bool) : (errT b ≠ 0) = (b = true) := by cases b <;> simp [errT]
theorem errT_eq (b : Bool) : (errT b = 0) = (b = false) := by cases b <;> simp [errT]
theorem badTerms_no {fr fl cap : Int} (h : badTerms fr fl cap = false) : (0 ≤ fr ∧ fr ≤ 64) ∧ (0 ≤ cap ∧ cap ≤ 1073741824) ∧ (0 ≤ fl ∧ fl ≤ cap) := by
  unfold badTerms at h
  rw [Bool.or_eq_false_iff, Bool.or_eq_false_iff] at h
  exact ⟨btw_t (not_f h.1.1), btw_t (not_f h.1.2), btw_t (not_f h.2)⟩
def mostOf (fr fl cap lo : Int) : Int := min (if lo * fr / 64 < fl then min fl lo else lo * fr / 64) cap
def MostN (fr fl cap lo hi : Int) : Int := if badTerms fr fl cap then 0 else if spanOk lo hi 2147483648 then mostOf fr fl cap lo else 0
def MostE (fr fl cap lo hi : Int) : Int := if badTerms fr fl cap then 22 else if spanOk lo hi 2147483648 then 0 else 7
theorem mul_bd {a b m n : Int} (ha : 0 ≤ a ∧ a ≤ m) (hb : 0 ≤ b ∧ b ≤ n) : 0 ≤ a * b ∧ a * b ≤ m * n :=
  ⟨Int.mul_nonneg ha.1 hb.1, Int.mul_le_mul ha.2 hb.2 hb.1 (by omega)⟩
end Go.Proofs.YtppfniekcgnmjaaGreat.Le
namespace Go.Proofs.YtppfniekcgnmjaaGreat.Le
open Go Go.Sx Go.RowKit
theorem eq_drop {α : Type} [DecidableEq α] (a b : List α) (k : Nat) (x y : α) (hx : a[k]? = some x) (hy : b[k]? = some y) : decide (a.drop k = b.drop k) = (decide (x = y) && decide (a.drop (k + 1) = b.drop (k + 1))) := by
  obtain ⟨h1, h2⟩ := List.getElem?_eq_some_iff.1 hx
  obtain ⟨h3, h4⟩ := List.getElem?_eq_some_iff.1 hy
  rw [List.drop_eq_getElem_cons h1, h2, List.drop_eq_getElem_cons h3, h4]
  by_cases h : x = y <;> by_cases h5 : a.drop (k + 1) = b.drop (k + 1) <;> simp [h, h5]
theorem eq_len {α : Type} [DecidableEq α] {a b : List α} (h : ¬ (a.length : Int) = b.length) : decide (a = b) = false := decide_eq_false (fun e => h (by rw [e]))
theorem len_of {a b : List Int} (h : ((a.length : Int) == (b.length : Int)) = true) : a.length = b.length := by
  have h2 : (a.length : Int) = b.length := by simpa using h
  omega
theorem same_start (a b : List Int) : (((a.length : Int) == (b.length : Int)) && decide (a.drop 0 = b.drop 0)) = decide (a = b) := by
  rw [List.drop_zero, List.drop_zero]
  by_cases h : (a.length : Int) = b.length
  · rw [show ((a.length : Int) == (b.length : Int)) = true by simpa using h]; rfl
  · rw [show ((a.length : Int) == (b.length : Int)) = false by simpa using h, eq_len h]; rfl
theorem beq_dec {x y : Int} {c : Bool} : ((x == y) && c) = (decide (x = y) && c) := by
  by_cases h : x = y <;> simp [h]
def ringI (n m : Int) : Int := if m ≤ 0 then 0 else ((n.tmod m) + m).tmod m
theorem ringI_bd (n m : Int) (hm : 1 ≤ m) : 0 ≤ ringI n m ∧ ringI n m < m := by
  unfold ringI
  rw [if_neg (by omega)]
  have h1 : -m < n.tmod m ∧ n.tmod m < m := by
    rcases Int.lt_or_le n 0 with h | h
    · have h2 := Int.tmod_lt_of_pos (-n) (show (0 : Int) < m by omega)
      have h3 := Int.tmod_nonneg m (show 0 ≤ -n by omega)
      rw [Int.neg_tmod] at h2 h3
      omega
    · have h2 := Int.tmod_lt_of_pos n (show (0 : Int) < m by omega)
      have h3 := Int.tmod_nonneg m h
      omega
  exact ⟨Int.tmod_nonneg m (by omega), Int.tmod_lt_of_pos _ (by omega)⟩
def pickI (l : List Int) (i : Int) : Int := if l.length = 0 then 0 else l.getD (ringI i l.length).toNat default
theorem gd_of {α : Type} {l : List α} {i : Nat} {x : α} (d : α) (h : l[i]? = some x) : l.getD i d = x := by rw [List.getD_eq_getElem?_getD, h]; rfl
end Go.Proofs.YtppfniekcgnmjaaGreat.Le
namespace Go.Proofs.YtppfniekcgnmjaaGreat.Le
open Go.Sx Go.RowKit
set_option maxRecDepth 20000
theorem fa105_0 : FieldIs Tryz.prog 105 0 0 1 false := ⟨⟨_, _, Tryz.underlying105, rfl, rfl, Tryz.sizeOf3, Tryz.isAgg3, by decide⟩⟩
theorem fa105_1 : FieldIs Tryz.prog 105 1 1 1 false := ⟨⟨_, _, Tryz.underlying105, rfl, rfl, Tryz.sizeOf3, Tryz.isAgg3, by decide⟩⟩
theorem fa181_0 : FieldIs Tryz.prog 181 0 0 1 false := ⟨⟨_, _, Tryz.underlying181, rfl, rfl, Tryz.sizeOf3, Tryz.isAgg3, by decide⟩⟩
theorem fa181_1 : FieldIs Tryz.prog 181 1 1 1 false := ⟨⟨_, _, Tryz.underlying181, rfl, rfl, Tryz.sizeOf3, Tryz.isAgg3, by decide⟩⟩
theorem fa181_2 : FieldIs Tryz.prog 181 2 2 1 false := ⟨⟨_, _, Tryz.underlying181, rfl, rfl, Tryz.sizeOf3, Tryz.isAgg3, by decide⟩⟩
end Go.Proofs.YtppfniekcgnmjaaGreat.Le
namespace Go.Proofs.YtppfniekcgnmjaaGreat.Le
open Go.Sx Go.RowKit Um
set_option maxRecDepth 20000
theorem k_within (n lo hi : Int) (w : World)  : Calls Tryz.prog 142 #[.int .i64 n, .int .i64 lo, .int .i64 hi] w (fun e w' => e = .returned (.bool (btw lo n hi)) ∧ Grow w w') := by
  refine enter_pure (args := [.int .i64 n, .int .i64 lo, .int .i64 hi]) [] Tryz.func142 rfl (by rw [Tryz.ntmps142]; simp) (by simp) ?_
  refine cj_seq ?_
  refine cj_regionG (gj_step (y_assign rfl) rfl rfl rfl (gj_nil ?_))
  refine ej_th (cj_seq ?_)
  refine cj_regionG (gj_step (y_move rfl) rfl rfl rfl (gj_step (y_move rfl) rfl rfl rfl (gj_step (y_geq rfl rfl) rfl rfl rfl (gj_step (y_move rfl) rfl rfl rfl (gj_g 3 10 13 rfl rfl rfl rfl (fun hg10 => gj_yes rfl rfl rfl (y_move rfl) rfl rfl (gj_yes rfl rfl rfl (y_move rfl) rfl rfl (gj_yes rfl rfl rfl (y_leq rfl rfl) rfl rfl (gj_nil rfl)))) (gj_step (y_and rfl rfl rfl) rfl rfl rfl (gj_step (y_assign rfl) rfl rfl rfl (gj_nil ?_))))))))
  refine ej_th (cj_ret ?_)
  exact ej_ret1 rfl Tryz.results142 rfl (fun w' hp => ⟨rfl, hp.below⟩)

theorem k_span (lo hi most : Int) (w : World)  : Calls Tryz.prog 116 #[.agg #[.int .i64 lo, .int .i64 hi], .int .i64 most] w (fun e w' => e = .returned (.bool (spanOk lo hi most)) ∧ Grow w w') := by
  refine enter_pure (args := [.agg #[.int .i64 lo, .int .i64 hi], .int .i64 most]) [] Tryz.func116 rfl (by rw [Tryz.ntmps116]; simp) (by simp) ?_
  refine cj_seq (cj_region ?_)
  refine oj_box rfl rfl rfl (fun b2 => ?_)
  refine oj_step (y_assign rfl) rfl rfl rfl ?_
  refine oj_nil ?_
  refine ej_th (cj_seq ?_)
  refine cj_regionG (gj_step (y_fa0 fa105_0 rfl) rfl rfl rfl (gj_step (y_load1 Tryz.isAgg3 rfl rfl) rfl rfl rfl (gj_step (y_geq rfl rfl) rfl rfl rfl (gj_step (y_move rfl) rfl rfl rfl (gj_g 5 8 13 rfl rfl rfl rfl (fun hg8 => gj_yes rfl rfl rfl (y_fa0 fa105_0 rfl) rfl rfl (gj_yes rfl rfl rfl (y_load1 Tryz.isAgg3 rfl rfl) rfl rfl (gj_yes rfl rfl rfl (y_fa fa105_1 rfl) rfl rfl (gj_yes rfl rfl rfl (y_load1 Tryz.isAgg3 rfl rfl) rfl rfl (gj_yes rfl rfl rfl (y_leq rfl rfl) rfl rfl (gj_nil rfl)))))) (gj_step (y_and rfl rfl rfl) rfl rfl rfl (gj_step (y_move rfl) rfl rfl rfl (gj_g 4 15 19 rfl rfl rfl rfl (fun hg15 => gj_yes rfl rfl rfl (y_fa fa105_1 rfl) rfl rfl (gj_yes rfl rfl rfl (y_load1 Tryz.isAgg3 rfl rfl) rfl rfl (gj_yes rfl rfl rfl (y_move rfl) rfl rfl (gj_yes rfl rfl rfl (y_leq rfl rfl) rfl rfl (gj_nil rfl))))) (gj_step (y_and rfl rfl rfl) rfl rfl rfl (gj_step (y_assign rfl) rfl rfl rfl (gj_nil ?_)))))))))))
  refine ej_th (cj_ret ?_)
  exact ej_ret1 rfl Tryz.results116 rfl (fun w' hp => ⟨rfl, hp.below⟩)

theorem k_CheckTerms (fr fl cap : Int) (w : World)  : Calls Tryz.prog 115 #[.agg #[.int .i64 fr, .int .i64 fl, .int .i64 cap]] w (fun e w' => e = .returned (.int .i64 (errT (badTerms fr fl cap))) ∧ Grow w w') := by
  refine enter_pure (args := [.agg #[.int .i64 fr, .int .i64 fl, .int .i64 cap]]) [] Tryz.func115 rfl (by rw [Tryz.ntmps115]; simp) (by simp) ?_
  refine cj_seq (cj_region ?_)
  refine oj_box rfl rfl rfl (fun b1 => ?_)
  refine oj_step (y_assign rfl) rfl rfl rfl ?_
  refine oj_nil ?_
  refine ej_th (cj_seq (cj_seq ?_))
  refine cj_regionG ?_
  refine gj_step (y_fa0 fa181_0 rfl) rfl rfl rfl (gj_step (y_load1 Tryz.isAgg3 rfl rfl) rfl rfl rfl (?_))
  refine gj_step (y_call Tryz.call142 rfl (fun w hp => k_within _ _ _ w)) rfl rfl rfl ?_
  refine gj_step (y_not rfl) rfl rfl rfl (gj_step (y_move rfl) rfl rfl rfl (?_))
  refine gj_g 4 7 11 rfl rfl rfl rfl (fun hg7 => gj_yes rfl rfl rfl (y_fa fa181_2 rfl) rfl rfl (gj_yes rfl rfl rfl (y_load1 Tryz.isAgg3 rfl rfl) rfl rfl (gj_yes rfl rfl rfl (y_call Tryz.call142 rfl (fun w hp => k_within _ _ _ w)) rfl rfl (gj_yes rfl rfl rfl (y_not rfl) rfl rfl (gj_nil rfl))))) ?_
  refine gj_step (y_or rfl rfl rfl) rfl rfl rfl (gj_step (y_move rfl) rfl rfl rfl (?_))
  refine gj_g 6 13 19 rfl rfl rfl rfl (fun hg13 => gj_yes rfl rfl rfl (y_fa fa181_1 rfl) rfl rfl (gj_yes rfl rfl rfl (y_load1 Tryz.isAgg3 rfl rfl) rfl rfl (gj_yes rfl rfl rfl (y_fa fa181_2 rfl) rfl rfl (gj_yes rfl rfl rfl (y_load1 Tryz.isAgg3 rfl rfl) rfl rfl (gj_yes rfl rfl rfl (y_call Tryz.call142 rfl (fun w hp => k_within _ _ _ w)) rfl rfl (gj_yes rfl rfl rfl (y_not rfl) rfl rfl (gj_nil rfl))))))) ?_
  refine gj_step (y_or rfl rfl rfl) rfl rfl rfl (?_)
  refine gj_nil ?_
  refine ej_th ?_
  refine cj_cond rfl (fun h20 => ?_) (fun h20 => ?_)
  · have h20b := h20
    try simp only [sxb] at h20
    refine cj_seq ?_
    refine cj_regionG (gj_step (y_assign rfl) rfl rfl rfl (gj_nil ?_))
    refine ej_th (cj_ret (ej_then_ret ?_))
    refine ej_ret1 rfl Tryz.results115 rfl (fun w' hp => ⟨?_, hp.below⟩)
    rw [show badTerms fr fl cap = true from h20b]; rfl
  · have h20b := h20
    try simp only [sxb] at h20
    refine cj_skip (ej_th (cj_seq ?_))
    refine cj_regionG (gj_step (y_assign rfl) rfl rfl rfl (gj_nil ?_))
    refine ej_th (cj_ret ?_)
    refine ej_ret1 rfl Tryz.results115 rfl (fun w' hp => ⟨?_, hp.below⟩)
    rw [show badTerms fr fl cap = false from h20b]; rfl

theorem k_most (fr fl cap lo hi : Int) (w : World) (hb : badTerms fr fl cap = false) (hv : 0 ≤ lo ∧ lo ≤ 2147483648) : Calls Tryz.prog 117 #[.agg #[.int .i64 fr, .int .i64 fl, .int .i64 cap], .agg #[.int .i64 lo, .int .i64 hi]] w (fun e w' => e = .returned (.int .i64 (mostOf fr fl cap lo)) ∧ Grow w w') := by
  obtain ⟨h1, h2, h3⟩ := badTerms_no hb
  have hm := mul_bd hv h1
  refine enter_pure (args := [.agg #[.int .i64 fr, .int .i64 fl, .int .i64 cap], .agg #[.int .i64 lo, .int .i64 hi]]) [] Tryz.func117 rfl (by rw [Tryz.ntmps117]; simp) (by simp) ?_
  refine cj_seq (cj_region ?_)
  refine oj_box rfl rfl rfl (fun b2 => ?_)
  refine oj_box rfl rfl rfl (fun b3 => ?_)
  refine oj_step (y_assign rfl) rfl rfl rfl ?_
  refine oj_nil ?_
  refine ej_th (cj_seq ?_)
  refine cj_regionG (gj_step (y_fa0 fa105_0 rfl) rfl rfl rfl (gj_step (y_load1 Tryz.isAgg3 rfl rfl) rfl rfl rfl (gj_step (y_fa0 fa181_0 rfl) rfl rfl rfl (gj_step (y_load1 Tryz.isAgg3 rfl rfl) rfl rfl rfl (gj_step (y_mul rfl rfl (by omega)) rfl rfl rfl (gj_step (y_quo rfl rfl (⟨by omega, by omega, by omega⟩)) rfl rfl rfl (gj_step (y_assign rfl) rfl rfl rfl (gj_nil ?_))))))))
  refine ej_th (cj_seq (cj_seq ?_))
  refine cj_regionG (gj_step (y_move rfl) rfl rfl rfl (gj_step (y_fa fa181_1 rfl) rfl rfl rfl (gj_step (y_load1 Tryz.isAgg3 rfl rfl) rfl rfl rfl (gj_step (y_lss rfl rfl) rfl rfl rfl (gj_nil ?_)))))
  refine ej_th ?_
  refine cj_cond rfl (fun h15 => ?_) (fun h15 => ?_)
  · have h15b := h15
    try simp only [sxb] at h15
    refine cj_regionG (gj_step (y_fa fa181_1 rfl) rfl rfl rfl (gj_step (y_load1 Tryz.isAgg3 rfl rfl) rfl rfl rfl (gj_step (y_fa0 fa105_0 rfl) rfl rfl rfl (gj_step (y_load1 Tryz.isAgg3 rfl rfl) rfl rfl rfl (gj_step (y_min rfl rfl) rfl rfl rfl (gj_step (y_assign rfl) rfl rfl rfl (gj_nil ?_)))))))
    refine ej_th (cj_seq ?_)
    refine cj_regionG (gj_step (y_move rfl) rfl rfl rfl (gj_step (y_fa fa181_2 rfl) rfl rfl rfl (gj_step (y_load1 Tryz.isAgg3 rfl rfl) rfl rfl rfl (gj_step (y_min rfl rfl) rfl rfl rfl (gj_step (y_assign rfl) rfl rfl rfl (gj_nil ?_))))))
    refine ej_th (cj_ret ?_)
    refine ej_ret1 rfl Tryz.results117 rfl (fun w' hp => ⟨?_, hp.below⟩)
    rw [mostOf, if_pos h15]
  · have h15b := h15
    try simp only [sxb] at h15
    refine cj_skip (ej_th (cj_seq ?_))
    refine cj_regionG (gj_step (y_move rfl) rfl rfl rfl (gj_step (y_fa fa181_2 rfl) rfl rfl rfl (gj_step (y_load1 Tryz.isAgg3 rfl rfl) rfl rfl rfl (gj_step (y_min rfl rfl) rfl rfl rfl (gj_step (y_assign rfl) rfl rfl rfl (gj_nil ?_))))))
    refine ej_th (cj_ret ?_)
    refine ej_ret1 rfl Tryz.results117 rfl (fun w' hp => ⟨?_, hp.below⟩)
    rw [mostOf, if_neg (by omega)]

theorem k_Most (fr fl cap lo hi : Int) (w : World)  : Calls Tryz.prog 89 #[.agg #[.int .i64 fr, .int .i64 fl, .int .i64 cap], .agg #[.int .i64 lo, .int .i64 hi]] w (fun e w' => e = .returned (.tuple #[.int .i64 (MostN fr fl cap lo hi), .int .i64 (MostE fr fl cap lo hi)]) ∧ Grow w w') := by
  refine enter_pure (args := [.agg #[.int .i64 fr, .int .i64 fl, .int .i64 cap], .agg #[.int .i64 lo, .int .i64 hi]]) [] Tryz.func89 rfl (by rw [Tryz.ntmps89]; simp) (by simp) ?_
  refine cj_seq (cj_region ?_)
  refine oj_box rfl rfl rfl (fun b2 => ?_)
  refine oj_box rfl rfl rfl (fun b3 => ?_)
  refine oj_step (y_assign rfl) rfl rfl rfl ?_
  refine oj_step (y_assign rfl) rfl rfl rfl ?_
  refine oj_nil ?_
  refine ej_th (cj_seq (cj_seq ?_))
  refine cj_regionG ?_
  refine gj_step (y_loadN Tryz.isAgg181 Tryz.sizeOf181 rfl) rfl rfl rfl (?_)
  refine gj_step (y_call Tryz.call115 rfl (fun w hp => k_CheckTerms _ _ _ w)) rfl rfl rfl ?_
  refine gj_step (y_assign rfl) rfl rfl rfl (?_)
  refine gj_nil ?_
  refine ej_th (cj_seq ?_)
  refine cj_regionG (gj_step (y_move rfl) rfl rfl rfl (gj_step (y_neq rfl rfl) rfl rfl rfl (gj_nil ?_)))
  refine ej_th ?_
  refine cj_cond rfl (fun h10 => ?_) (fun h10 => ?_)
  · have h10b := h10
    try simp only [sxb] at h10
    rw [errT_ne] at h10
    refine cj_seq ?_
    refine cj_regionG (gj_step (y_move rfl) rfl rfl rfl (gj_step (y_assign rfl) rfl rfl rfl (gj_step (y_assign rfl) rfl rfl rfl (gj_nil ?_))))
    refine ej_th (cj_ret (ej_then_ret ?_))
    refine ej_ret2 rfl Tryz.results89 rfl rfl (fun w' hp => ⟨?_, hp.below⟩)
    rw [MostN, MostE, h10]; rfl
  · have h10b := h10
    try simp only [sxb] at h10
    rw [errT_eq] at h10
    refine cj_skip (ej_th (cj_seq (cj_seq ?_)))
    refine cj_regionG ?_
    refine gj_step (y_loadN Tryz.isAgg105 Tryz.sizeOf105 rfl) rfl rfl rfl (?_)
    refine gj_step (y_call Tryz.call116 rfl (fun w hp => k_span _ _ _ w)) rfl rfl rfl ?_
    refine gj_step (y_not rfl) rfl rfl rfl (?_)
    refine gj_nil ?_
    refine ej_th ?_
    refine cj_cond rfl (fun h14 => ?_) (fun h14 => ?_)
    · have h14b := h14
      try simp only [sxb] at h14
      have hs : spanOk lo hi 2147483648 = false := not_t h14b
      refine cj_seq ?_
      refine cj_regionG (gj_step (y_assign rfl) rfl rfl rfl (gj_step (y_assign rfl) rfl rfl rfl (gj_nil ?_)))
      refine ej_th (cj_ret (ej_then_ret ?_))
      refine ej_ret2 rfl Tryz.results89 rfl rfl (fun w' hp => ⟨?_, hp.below⟩)
      rw [MostN, MostE, h10, hs]; rfl
    · have h14b := h14
      try simp only [sxb] at h14
      have hs : spanOk lo hi 2147483648 = true := not_f h14b
      have hs2 := hs
      simp only [spanOk, Bool.and_eq_true, decide_eq_true_eq] at hs2
      refine cj_skip (ej_th (cj_seq ?_))
      refine cj_regionG ?_
      refine gj_step (y_loadN Tryz.isAgg181 Tryz.sizeOf181 rfl) rfl rfl rfl (gj_step (y_loadN Tryz.isAgg105 Tryz.sizeOf105 rfl) rfl rfl rfl (?_))
      refine gj_step (y_call Tryz.call117 rfl (fun w hp => k_most _ _ _ _ _ w (by assumption) (by omega))) rfl rfl rfl ?_
      refine gj_step (y_assign rfl) rfl rfl rfl (gj_step (y_assign rfl) rfl rfl rfl (?_))
      refine gj_nil ?_
      refine ej_th (cj_ret ?_)
      refine ej_ret2 rfl Tryz.results89 rfl rfl (fun w' hp => ⟨?_, hp.below⟩)
      rw [MostN, MostE, h10, hs]; rfl

end Go.Proofs.YtppfniekcgnmjaaGreat.Le
namespace Am

structure RiseV where
  fr : Int
  by_ : Int
instance : Inhabited RiseV := ⟨⟨0, 0⟩⟩
/-- by how much bids rise: the last rise that has begun -/
def byG (p : Int) : List RiseV → Int → Int
  | [], b => b
  | r :: l, b => byG p l (if r.fr ≤ p then r.by_ else b)
def byR (lad : List RiseV) (p : Int) : Int := byG p lad 0
theorem byG_drop (p b : Int) (l : List RiseV) (k : Nat) (r : RiseV) (h : l[k]? = some r) : byG p (l.drop k) b = byG p (l.drop (k + 1)) (if r.fr ≤ p then r.by_ else b) := by
  obtain ⟨h1, h2⟩ := List.getElem?_eq_some_iff.1 h
  rw [List.drop_eq_getElem_cons h1, h2, byG]
theorem byG_late (p : Int) : ∀ (l : List RiseV) (b : Int), (∀ r ∈ l, p < r.fr) → byG p l b = b
  | [], _, _ => rfl
  | r :: l, b, h => by
    have := h r (List.mem_cons_self ..)
    rw [byG, if_neg (by omega), byG_late p l b (fun q hq => h q (List.mem_cons_of_mem _ hq))]
/-- the ladder's steps begin at ever greater numbers, the first one at 0 -/
structure LadOk (lad : List RiseV) : Prop where
  ne : 1 ≤ lad.length
  zero : (lad.getD 0 default).fr = 0
  inc : ∀ i, i + 1 < lad.length → (lad.getD i default).fr < (lad.getD (i + 1) default).fr
  by1 : ∀ r ∈ lad, 1 ≤ r.by_ ∧ r.by_ ≤ 100000
theorem LadOk.mono {lad : List RiseV} (h : LadOk lad) : ∀ (d i : Nat), i + d < lad.length → (lad.getD i default).fr + d ≤ (lad.getD (i + d) default).fr := by
  intro d
  induction d with
  | zero => intro i _; simp
  | succ d ih =>
    intro i hi
    have h1 := ih i (by omega)
    have h2 := h.inc (i + d) (by omega)
    rw [show i + (d + 1) = i + d + 1 by omega]
    omega
/-- the step at hand -/
def AtOk (lad : List RiseV) (a : Nat) (p : Int) : Prop := a < lad.length ∧ (lad.getD a default).fr ≤ p ∧ (a + 1 < lad.length → p < (lad.getD (a + 1) default).fr)
theorem byR_at {lad : List RiseV} (h : LadOk lad) {a : Nat} {p : Int} (ha : AtOk lad a p) : byR lad p = (lad.getD a default).by_ := by
  have hal : a < lad.length := ha.1
  have hx : lad[a]? = some (lad.getD a default) := by rw [List.getD_eq_getElem?_getD, List.getElem?_eq_getElem ha.1]; rfl
  -- up to a: all have begun
  have early : ∀ (n : Nat) (b : Int), n ≤ a → byG p lad b = byG p (lad.drop n) (if n = 0 then b else (lad.getD (n - 1) default).by_) := by
    intro n
    induction n with
    | zero => intro b _; simp
    | succ n ih =>
      intro b hn
      have hy : lad[n]? = some (lad.getD n default) := by rw [List.getD_eq_getElem?_getD, List.getElem?_eq_getElem (by omega)]; rfl
      rw [ih b (by omega), byG_drop p _ lad n _ hy]
      have h1 := h.mono (a - n) n (by have := ha.1; omega)
      rw [show n + (a - n) = a by omega] at h1
      have h2 := ha.2.1
      rw [if_pos (by omega), if_neg (by omega)]; rfl
  unfold byR
  rw [early a 0 (Nat.le_refl _), byG_drop p _ lad a _ hx, if_pos ha.2.1, byG_late]
  intro r hr
  obtain ⟨i, hi⟩ := List.mem_iff_getElem?.1 hr
  rw [List.getElem?_drop] at hi
  obtain ⟨h1, h2⟩ := List.getElem?_eq_some_iff.1 hi
  have h3 := ha.2.2 (by omega)
  have h4 := h.mono i (a + 1) h1
  have h5 : lad.getD (a + 1 + i) default = r := by rw [List.getD_eq_getElem?_getD, hi]; rfl
  rw [h5] at h4
  omega
theorem byR_bd {lad : List RiseV} (h : LadOk lad) {p : Int} (hp : 0 ≤ p) : 1 ≤ byR lad p ∧ byR lad p ≤ 100000 := by
  have key : ∀ (n : Nat), n < lad.length → (lad.getD n default).fr ≤ p → ∃ a, AtOk lad a p := by
    intro n hn hf
    induction hd : lad.length - n generalizing n with
    | zero => omega
    | succ d ih =>
      by_cases h1 : n + 1 < lad.length ∧ (lad.getD (n + 1) default).fr ≤ p
      · exact ih (n + 1) h1.1 h1.2 (by omega)
      · exact ⟨n, hn, hf, fun h2 => by
          have : ¬ (lad.getD (n + 1) default).fr ≤ p := fun h3 => h1 ⟨h2, h3⟩
          omega⟩
  obtain ⟨a, ha⟩ := key 0 h.ne (by rw [h.zero]; exact hp)
  rw [byR_at h ha]
  refine h.by1 _ ?_
  rw [List.getD_eq_getElem?_getD, List.getElem?_eq_getElem ha.1]
  exact List.getElem_mem _
def nx (lad : List RiseV) (p : Int) : Int := p + byR lad p
/-- rungs from one on -/
def rgs (lad : List RiseV) : Nat → Int → List Int
  | 0, _ => []
  | n + 1, p => if p ≤ 100000 then p :: rgs lad n (nx lad p) else []
theorem rgs_s (lad : List RiseV) (n : Nat) (p : Int) : rgs lad (n + 1) p = if p ≤ 100000 then p :: rgs lad n (nx lad p) else [] := rfl
theorem rgs_fuel {lad : List RiseV} (h : LadOk lad) : ∀ (n : Nat) (p : Int), 0 ≤ p → 100001 ≤ p + n → rgs lad (n + 1) p = rgs lad n p := by
  intro n
  induction n with
  | zero => intro p _ h1; rw [rgs_s, if_neg (by omega)]; rfl
  | succ n ih =>
    intro p h0 h1
    rw [rgs_s lad (n + 1) p, rgs_s lad n p]
    have := byR_bd h h0
    split
    · rw [ih (nx lad p) (by unfold nx; omega) (by unfold nx; omega)]
    · rfl
/-- all rungs from one on -/
def rgL (lad : List RiseV) (p : Int) : List Int := rgs lad 100001 p
theorem rgL_step {lad : List RiseV} (h : LadOk lad) {p : Int} (h0 : 0 ≤ p) : rgL lad p = if p ≤ 100000 then p :: rgL lad (nx lad p) else [] := by
  unfold rgL
  have := byR_bd h h0
  rw [← rgs_fuel h 100001 p h0 (by omega), rgs_s]
/-- the last one that is not greater than a number -/
def rungF (n : Int) : List Int → Int → Int
  | [], out => out
  | p :: l, out => if n < p then out else rungF n l p
def behF (n : Int) : List Int → Int
  | [] => 0
  | p :: l => if n < p then p else behF n l
/-- in order, and greater than 0 -/
structure Asc (rs : List Int) : Prop where
  lt : rs.Pairwise (· < ·)
  pos : ∀ p ∈ rs, 1 ≤ p ∧ p ≤ 100000
end Am
namespace Am
open Go.Sx (getL putL getL_put)

structure BidV where
  who : Int
  way : Int
  most : Int
  deriving DecidableEq, Inhabited
structure LeadV where
  who : Int
  limit : Int
  way : Int
  second : Int
  price : Int
  deriving DecidableEq, Inhabited
structure KnockV where
  winner : Int
  price : Int
  deriving DecidableEq, Inhabited
def beats (a b : BidV) : Bool := if a.most = b.most then (if a.way = b.way then decide (a.who < b.who) else decide (a.way < b.way)) else decide (b.most < a.most)
theorem beats_iff (a b : BidV) : beats a b = true ↔ b.most < a.most ∨ (a.most = b.most ∧ (a.way < b.way ∨ (a.way = b.way ∧ a.who < b.who))) := by
  unfold beats
  split
  · split <;> simp <;> omega
  · simp; omega
theorem beats_no (a b : BidV) : beats a b = false ↔ a.most < b.most ∨ (a.most = b.most ∧ (b.way < a.way ∨ (a.way = b.way ∧ b.who ≤ a.who))) := by
  rw [← Bool.not_eq_true, beats_iff]; omega
theorem bid_ext {a b : BidV} (h1 : a.who = b.who) (h2 : a.way = b.way) (h3 : a.most = b.most) : a = b := by cases a; cases b; simp_all
/-- the one that beats all others -/
structure IsWin (os : List BidV) (W : BidV) : Prop where
  mem : W ∈ os
  best : ∀ o ∈ os, o = W ∨ beats W o = true
theorem IsWin.uniq {os : List BidV} {W V : BidV} (h : IsWin os W) (k : IsWin os V) : W = V := by
  rcases h.best V k.mem with e | e
  · exact e.symm
  · rcases k.best W h.mem with e' | e'
    · exact e'
    · rw [beats_iff] at e e'; omega
theorem IsWin.perm {os ps : List BidV} {W : BidV} (h : IsWin os W) (hp : os.Perm ps) : IsWin ps W := ⟨hp.mem_iff.1 h.mem, fun o ho => h.best o (hp.mem_iff.2 ho)⟩
theorem IsWin.most {os : List BidV} {W o : BidV} (h : IsWin os W) (ho : o ∈ os) : o.most ≤ W.most := by
  rcases h.best o ho with e | e
  · rw [e]; exact Int.le_refl _
  · rw [beats_iff] at e; omega
theorem IsWin.snoc {os : List BidV} {W o : BidV} (h : IsWin os W) : IsWin (os ++ [o]) (if beats o W then o else W) := by
  refine ⟨?_, fun p hp => ?_⟩
  · split
    · simp
    · exact List.mem_append_left _ h.mem
  · have hb : p ∈ os ∨ p = o := by simpa using hp
    by_cases hc : beats o W = true
    · rw [if_pos hc]
      rcases hb with hb | hb
      · rcases h.best p hb with e | e
        · exact .inr (e ▸ hc)
        · right; rw [beats_iff] at *; omega
      · exact .inl hb
    · rw [if_neg hc]
      rcases hb with hb | hb
      · exact h.best p hb
      · subst hb
        rw [Bool.not_eq_true, beats_no] at hc
        by_cases he : p = W
        · exact .inl he
        · right
          rw [beats_iff]
          by_cases h3 : p.who = W.who ∧ p.way = W.way ∧ p.most = W.most
          · exact absurd (bid_ext h3.1 h3.2.1 h3.2.2) he
          · omega
def winO : List BidV → Option BidV
  | [] => none
  | o :: l => match winO l with
    | none => some o
    | some v => some (if beats o v then o else v)
theorem winO_spec : ∀ os : List BidV, (winO os = none ∧ os = []) ∨ (∃ W, winO os = some W ∧ IsWin os W)
  | [] => .inl ⟨rfl, rfl⟩
  | o :: l => by
    right
    rcases winO_spec l with ⟨h, e⟩ | ⟨W, h, hw⟩
    · rw [e, winO, winO]; exact ⟨o, rfl, by simp, by simp⟩
    · rw [winO, h]
      exact ⟨_, rfl, (hw.snoc (o := o)).perm (List.perm_append_comm (l₁ := l) (l₂ := [o]))⟩
theorem winO_eq {os : List BidV} {W : BidV} (h : IsWin os W) : winO os = some W := by
  rcases winO_spec os with ⟨_, e⟩ | ⟨V, e, hv⟩
  · rw [e] at h; cases h.mem
  · rw [e, hv.uniq h]
/-- the greatest rung of the others (0: there is none) -/
structure IsSec (os : List BidV) (w : Int) (s : Int) : Prop where
  le : ∀ o ∈ os, o.who ≠ w → o.most ≤ s
  at_ : s = 0 ∨ ∃ o ∈ os, o.who ≠ w ∧ o.most = s
theorem IsSec.uniq {os : List BidV} {w s t : Int} (hp : ∀ o ∈ os, 1 ≤ o.most) (h : IsSec os w s) (k : IsSec os w t) : s = t := by
  rcases h.at_ with e | ⟨o, ho, hw, e⟩
  · rcases k.at_ with e' | ⟨o', ho', hw', e'⟩
    · rw [e, e']
    · have := h.le o' ho' hw'; have := hp o' ho'; omega
  · have h1 := k.le o ho hw
    rcases k.at_ with e' | ⟨o', ho', hw', e'⟩
    · have := hp o ho; omega
    · have := h.le o' ho' hw'; omega
theorem IsSec.perm {os ps : List BidV} {w s : Int} (h : IsSec os w s) (hp : os.Perm ps) : IsSec ps w s :=
  ⟨fun o ho => h.le o (hp.mem_iff.2 ho), h.at_.imp id fun ⟨o, ho, x⟩ => ⟨o, hp.mem_iff.1 ho, x⟩⟩
def secO (w : Int) : List BidV → Int
  | [] => 0
  | o :: l => if o.who = w then secO w l else max o.most (secO w l)
theorem secO_spec (w : Int) : ∀ os : List BidV, (∀ o ∈ os, 1 ≤ o.most) → IsSec os w (secO w os) ∧ 0 ≤ secO w os
  | [], _ => ⟨⟨fun _ h => (by cases h), .inl rfl⟩, Int.le_refl _⟩
  | o :: l, hp => by
    obtain ⟨h, h0⟩ := secO_spec w l (fun q hq => hp q (List.mem_cons_of_mem _ hq))
    rw [secO]
    by_cases hw : o.who = w
    · rw [if_pos hw]
      refine ⟨⟨fun q hq hne => ?_, h.at_.imp id fun ⟨p, hp, x⟩ => ⟨p, List.mem_cons_of_mem _ hp, x⟩⟩, h0⟩
      rcases List.mem_cons.1 hq with e | e
      · exact absurd (e ▸ hw) hne
      · exact h.le q e hne
    · rw [if_neg hw]
      refine ⟨⟨fun q hq hne => ?_, ?_⟩, by omega⟩
      · rcases List.mem_cons.1 hq with e | e
        · rw [e]; omega
        · have := h.le q e hne; omega
      · by_cases hm : secO w l ≤ o.most
        · exact .inr ⟨o, List.mem_cons_self .., hw, by omega⟩
        · rcases h.at_ with e | ⟨p, hp', x, y⟩
          · have := hp o (List.mem_cons_self ..); omega
          · exact .inr ⟨p, List.mem_cons_of_mem _ hp', x, by omega⟩
/-- what is paid if others go up to a rung -/
def priceF (rs : List Int) (start limit second : Int) : Int := if second = limit then limit else if second = 0 then start else behF second rs
def offer1 (rs : List Int) (b : BidV) : BidV := ⟨b.who, b.way, rungF b.most rs 0⟩
def offs (rs : List Int) (bs : List BidV) : List BidV := (bs.map (offer1 rs)).filter (fun o => decide (0 < o.most))
def knockF (rs : List Int) (start least : Int) (os : List BidV) : KnockV := match winO os with
  | none => ⟨-1, 0⟩
  | some W => if least = 0 ∨ W.most < least then ⟨-1, 0⟩ else ⟨W.who, max least (priceF rs start W.most (secO W.who os))⟩
theorem knock_eq {rs : List Int} {start least s : Int} {os : List BidV} {W : BidV} (h : IsWin os W) (k : IsSec os W.who s) (hp : ∀ o ∈ os, 1 ≤ o.most) : knockF rs start least os = if least = 0 ∨ W.most < least then ⟨-1, 0⟩ else ⟨W.who, max least (priceF rs start W.most s)⟩ := by
  have e := (secO_spec W.who os hp).1.uniq hp k
  rw [knockF, winO_eq h]
  simp only [e]
theorem offs_snoc (rs : List Int) (b : BidV) (bs : List BidV) : offs rs (bs ++ [b]) = if 0 < (offer1 rs b).most then offs rs bs ++ [offer1 rs b] else offs rs bs := by
  unfold offs
  rw [List.map_append, List.filter_append]
  by_cases h : 0 < (offer1 rs b).most
  · rw [if_pos h]; congr 1; simp [h]
  · rw [if_neg h]; simp [h]
theorem offs_pos {rs : List Int} {bs : List BidV} {o : BidV} (h : o ∈ offs rs bs) : 1 ≤ o.most := by
  unfold offs at h
  have := of_decide_eq_true (List.mem_filter.1 h).2
  omega
end Am
namespace Am
open Go.Sx (getL putL getL_put)

/-! the reference -/
end Am
namespace Am
open Go.Sx (getL putL getL_put)

/-! maps as lists of entries -/
theorem getL_mem {l : List (Int × BidV)} : ∀ {k : Int} {v : BidV}, getL l k = some v → (k, v) ∈ l := by
  induction l with
  | nil => intro k v h; cases h
  | cons p l ih =>
    intro k v h
    rw [getL] at h
    split at h
    · rename_i hk
      cases h
      rw [← hk]; exact List.mem_cons_self ..
    · exact List.mem_cons_of_mem _ (ih h)
theorem getL_no {l : List (Int × BidV)} : ∀ {k : Int}, getL l k = none → ∀ p ∈ l, p.1 ≠ k := by
  induction l with
  | nil => intro k h p hp; cases hp
  | cons q l ih =>
    intro k h p hp
    rw [getL] at h
    split at h
    · cases h
    · rename_i hk
      rcases List.mem_cons.1 hp with e | e
      · rw [e]; exact hk
      · exact ih h p e
theorem putL_mem : ∀ {l : List (Int × BidV)} {k : Int} {v : BidV} {p : Int × BidV}, p ∈ putL l k v → p = (k, v) ∨ p ∈ l
  | [], k, v, p, h => by simpa [putL] using h
  | q :: l, k, v, p, h => by
    rw [putL] at h
    split at h
    · rcases List.mem_cons.1 h with e | e
      · exact .inl e
      · exact .inr (List.mem_cons_of_mem _ e)
    · rcases List.mem_cons.1 h with e | e
      · exact .inr (e ▸ List.mem_cons_self ..)
      · exact (putL_mem e).imp id (List.mem_cons_of_mem _)
theorem putL_keys : ∀ (l : List (Int × BidV)) (k : Int) (v : BidV), (putL l k v).map (·.1) = if k ∈ l.map (·.1) then l.map (·.1) else l.map (·.1) ++ [k]
  | [], k, v => by simp [putL]
  | q :: l, k, v => by
    rw [putL]
    by_cases h : q.1 = k
    · rw [if_pos h]; simp [h]
    · rw [if_neg h, List.map_cons, putL_keys l k v]
      by_cases hk : k ∈ l.map (·.1)
      · rw [if_pos hk, if_pos (by rw [List.map_cons]; exact List.mem_cons_of_mem _ hk), List.map_cons]
      · rw [if_neg hk, if_neg (by rw [List.map_cons]; intro e; rcases List.mem_cons.1 e with e | e; exact h e.symm; exact hk e), List.map_cons]; rfl
/-- what the map holds -/
structure OwnIs (os : List BidV) (l : List (Int × BidV)) : Prop where
  val : ∀ p ∈ l, p.2.who = p.1 ∧ p.2 ∈ os ∧ ∀ o ∈ os, o.who = p.1 → o = p.2 ∨ beats p.2 o = true
  all : ∀ o ∈ os, ∃ p ∈ l, p.1 = o.who
  nd : (l.map (·.1)).Nodup
def ownC (l : List (Int × BidV)) (o : BidV) : Bool := match getL l o.who with | none => true | some v => beats o v
def ownS (l : List (Int × BidV)) (o : BidV) : List (Int × BidV) := if ownC l o = true then putL l o.who o else l
theorem getL_of {l : List (Int × BidV)} (hn : (l.map (·.1)).Nodup) {p : Int × BidV} (hp : p ∈ l) : getL l p.1 = some p.2 := by
  induction l with
  | nil => cases hp
  | cons q l ih =>
    rw [List.map_cons, List.nodup_cons] at hn
    rw [getL]
    rcases List.mem_cons.1 hp with e | e
    · rw [if_pos (by rw [e]), e]
    · rw [if_neg (show ¬ q.1 = p.1 from fun h => hn.1 (by rw [h]; exact List.mem_map.2 ⟨p, e, rfl⟩)), ih hn.2 e]
theorem own_step {os : List BidV} {l : List (Int × BidV)} (h : OwnIs os l) (o : BidV) : OwnIs (os ++ [o]) (ownS l o) := by
  have htr : ∀ a b c : BidV, beats a b = true → beats b c = true → beats a c = true := fun a b c h1 h2 => by rw [beats_iff] at *; omega
  unfold ownS ownC
  cases hg : getL l o.who with
  | none =>
    have hno := getL_no hg
    rw [if_pos rfl]
    have hnm : o.who ∉ l.map (·.1) := fun e => by obtain ⟨p, hp, e⟩ := List.mem_map.1 e; exact hno p hp e
    have hk := putL_keys l o.who o
    rw [if_neg hnm] at hk
    refine ⟨fun p hp => ?_, fun q hq => ?_, ?_⟩
    · rcases putL_mem hp with e | e
      · rw [e]
        refine ⟨rfl, by simp, fun q hq hw => ?_⟩
        rcases List.mem_append.1 hq with e' | e'
        · obtain ⟨r, hr, hrw⟩ := h.all q e'
          exact absurd (hrw.trans hw) (hno r hr)
        · exact .inl (by simpa using e')
      · obtain ⟨a, b, c⟩ := h.val p e
        refine ⟨a, List.mem_append_left _ b, fun q hq hw => ?_⟩
        rcases List.mem_append.1 hq with e' | e'
        · exact c q e' hw
        · simp at e'; rw [e'] at hw; exact absurd hw.symm (hno p e)
    · rcases List.mem_append.1 hq with e | e
      · obtain ⟨r, hr, hrw⟩ := h.all q e
        have : q.who ∈ (putL l o.who o).map (·.1) := by rw [hk]; exact List.mem_append_left _ (List.mem_map.2 ⟨r, hr, hrw⟩)
        obtain ⟨p, hp, e⟩ := List.mem_map.1 this
        exact ⟨p, hp, e⟩
      · simp at e
        have : q.who ∈ (putL l o.who o).map (·.1) := by rw [hk, e]; simp
        obtain ⟨p, hp, e⟩ := List.mem_map.1 this
        exact ⟨p, hp, e⟩
    · rw [hk]
      exact List.nodup_append.2 ⟨h.nd, by simp, fun a ha b hb => by simp at hb; rw [hb]; exact fun e => hnm (e ▸ ha)⟩
  | some v =>
    have hm := getL_mem hg
    obtain ⟨v1, v2, v3⟩ := h.val _ hm
    have hmk : o.who ∈ l.map (·.1) := List.mem_map.2 ⟨_, hm, rfl⟩
    by_cases hb : beats o v = true
    · simp only [hb, if_true]
      have hk := putL_keys l o.who o
      rw [if_pos hmk] at hk
      have hin : ∀ p ∈ putL l o.who o, p = (o.who, o) ∨ (p ∈ l ∧ p.1 ≠ o.who) := by
        intro p hp
        by_cases hpo : p.1 = o.who
        · left
          have hgp := getL_of (by rw [hk]; exact h.nd) hp
          rw [getL_put, if_pos hpo.symm] at hgp
          cases hgp
          exact Prod.ext hpo (by simp_all)
        · rcases putL_mem hp with e | e
          · exact .inl e
          · exact .inr ⟨e, hpo⟩
      refine ⟨fun p hp => ?_, fun q hq => ?_, by rw [hk]; exact h.nd⟩
      · rcases hin p hp with e | ⟨e, hne⟩
        · rw [e]
          refine ⟨rfl, by simp, fun q hq hw => ?_⟩
          rcases List.mem_append.1 hq with e' | e'
          · rcases v3 q e' hw with e2 | e2
            · exact .inr (e2 ▸ hb)
            · exact .inr (htr _ _ _ hb e2)
          · exact .inl (by simpa using e')
        · obtain ⟨a, b, c⟩ := h.val p e
          refine ⟨a, List.mem_append_left _ b, fun q hq hw => ?_⟩
          rcases List.mem_append.1 hq with e' | e'
          · exact c q e' hw
          · simp at e'; rw [e'] at hw; exact absurd hw.symm hne
      · have : q.who ∈ (putL l o.who o).map (·.1) := by
          rw [hk]
          rcases List.mem_append.1 hq with e | e
          · obtain ⟨r, hr, hrw⟩ := h.all q e
            exact List.mem_map.2 ⟨r, hr, hrw⟩
          · simp at e; rw [e]; exact hmk
        obtain ⟨p, hp, e⟩ := List.mem_map.1 this
        exact ⟨p, hp, e⟩
    · simp only [hb, Bool.false_eq_true, if_false]
      refine ⟨fun p hp => ?_, fun q hq => ?_, h.nd⟩
      · obtain ⟨a, b, c⟩ := h.val p hp
        refine ⟨a, List.mem_append_left _ b, fun q hq hw => ?_⟩
        rcases List.mem_append.1 hq with e' | e'
        · exact c q e' hw
        · simp at e'
          rw [e'] at hw ⊢
          have hpv : p.2 = v := by
            have := getL_of h.nd hp
            rw [← hw, hg] at this
            cases this; rfl
          rw [hpv]
          rw [Bool.not_eq_true, beats_no] at hb
          simp only at v1
          by_cases he : o = v
          · exact .inl he
          · right
            rw [beats_iff]
            by_cases h3 : o.way = v.way ∧ o.most = v.most
            · exact absurd (bid_ext v1.symm h3.1 h3.2) he
            · omega
      · rcases List.mem_append.1 hq with e | e
        · exact h.all q e
        · simp at e; rw [e]; exact ⟨_, hm, rfl⟩
def ownF (rs : List Int) : List BidV → List (Int × BidV) → List (Int × BidV)
  | [], l => l
  | b :: bs, l => ownF rs bs (if 0 < (offer1 rs b).most then ownS l (offer1 rs b) else l)
theorem ownF_drop (rs : List Int) (bs : List BidV) (k : Nat) (b : BidV) (l : List (Int × BidV)) (h : bs[k]? = some b) : ownF rs (bs.drop k) l = ownF rs (bs.drop (k + 1)) (if 0 < (offer1 rs b).most then ownS l (offer1 rs b) else l) := by
  obtain ⟨h1, h2⟩ := List.getElem?_eq_some_iff.1 h
  rw [List.drop_eq_getElem_cons h1, h2, ownF]
theorem ownF_is (rs : List Int) : ∀ (bs as_ : List BidV) (l : List (Int × BidV)), OwnIs (offs rs as_) l → OwnIs (offs rs (as_ ++ bs)) (ownF rs bs l)
  | [], as_, l, h => by rw [List.append_nil]; exact h
  | b :: bs, as_, l, h => by
    rw [ownF, show as_ ++ b :: bs = (as_ ++ [b]) ++ bs by simp]
    refine ownF_is rs bs _ _ ?_
    rw [offs_snoc]
    by_cases hb : 0 < (offer1 rs b).most
    · rw [if_pos hb, if_pos hb]; exact own_step h _
    · rw [if_neg hb, if_neg hb]; exact h
theorem ownF_own (rs : List Int) (bs : List BidV) : OwnIs (offs rs bs) (ownF rs bs []) := by
  have := ownF_is rs bs [] [] ⟨fun _ h => (by cases h), fun o h => (by simp [offs] at h), by simp⟩
  simpa using this
def secT : List BidV → Int
  | [] => 0
  | p :: _ => p.most
/-- the program's sale, from the sorted offers -/
def sellP (rs : List Int) (start least : Int) (s : List BidV) : KnockV := match s with
  | [] => ⟨-1, 0⟩
  | o :: t => if least = 0 ∨ o.most < least then ⟨-1, 0⟩ else ⟨o.who, max least (priceF rs start o.most (secT t))⟩
theorem sell_eq {rs : List Int} {start least : Int} {os s : List BidV} {l : List (Int × BidV)} (h : OwnIs os l) (hp : s.Perm (l.map (·.2))) (hs : s.Pairwise (fun a b => beats b a = false)) (h1 : ∀ o ∈ os, 1 ≤ o.most) : sellP rs start least s = knockF rs start least os := by
  have hin : ∀ v ∈ s, v ∈ os := fun v hv => by
    obtain ⟨p, hp', e⟩ := List.mem_map.1 (hp.mem_iff.1 hv)
    rw [← e]; exact (h.val p hp').2.1
  have hof : ∀ o ∈ os, ∃ v ∈ s, v.who = o.who ∧ (o = v ∨ beats v o = true) := fun o ho => by
    obtain ⟨p, hp', e⟩ := h.all o ho
    obtain ⟨a, b, c⟩ := h.val p hp'
    exact ⟨p.2, hp.mem_iff.2 (List.mem_map.2 ⟨p, hp', rfl⟩), a.trans e, c o ho e.symm⟩
  have hnd : (s.map (·.who)).Nodup := by
    refine (hp.map _).nodup_iff.2 ?_
    rw [List.map_map, show l.map ((fun v : BidV => v.who) ∘ fun p : Int × BidV => p.2) = l.map (fun p : Int × BidV => p.1) from List.map_congr_left fun p hp' => (h.val p hp').1]
    exact h.nd
  have htr : ∀ a b c : BidV, a = b ∨ beats a b = true → (c = b ∨ beats b c = true) → (c = a ∨ beats a c = true) := fun a b c e1 e2 => by
    rcases e1 with e1 | e1
    · rw [e1]; exact e2
    · rcases e2 with e2 | e2
      · rw [e2]; exact .inr e1
      · right; rw [beats_iff] at *; omega
  match s, hin, hof, hnd, hs with
  | [], hin, hof, _, _ =>
    have : os = [] := List.eq_nil_iff_forall_not_mem.2 fun o ho => by obtain ⟨v, hv, _⟩ := hof o ho; cases hv
    rw [this]; rfl
  | o :: t, hin, hof, hnd, hs =>
    have hst := List.pairwise_cons.1 hs
    rw [List.map_cons, List.nodup_cons] at hnd
    have hne : ∀ v ∈ t, v.who ≠ o.who := fun v hv e => hnd.1 (e ▸ List.mem_map.2 ⟨v, hv, rfl⟩)
    have hbt : ∀ v ∈ t, beats o v = true := fun v hv => by
      have h2 := hst.1 v hv; have h3 := hne v hv
      rw [beats_no] at h2; rw [beats_iff]; omega
    have hw : IsWin os o := ⟨hin o (List.mem_cons_self ..), fun q hq => by
      obtain ⟨v, hv, _, e⟩ := hof q hq
      rcases List.mem_cons.1 hv with e' | e'
      · rw [e'] at e; exact e
      · exact htr o v q (.inr (hbt v e')) e⟩
    have hk : IsSec os o.who (secT t) := by
      cases t with
      | nil =>
        refine ⟨fun q hq hne' => ?_, .inl rfl⟩
        obtain ⟨v, hv, e1, _⟩ := hof q hq
        simp at hv
        rw [hv] at e1; exact absurd e1.symm hne'
      | cons p t =>
        refine ⟨fun q hq hne' => ?_, .inr ⟨p, hin p (by simp), hne p (List.mem_cons_self ..), rfl⟩⟩
        obtain ⟨v, hv, e1, e2⟩ := hof q hq
        have hvm : v.most ≤ p.most := by
          rcases List.mem_cons.1 hv with e' | e'
          · rw [e'] at e1; exact absurd e1.symm hne'
          · rcases List.mem_cons.1 e' with e' | e'
            · rw [e']; exact Int.le_refl _
            · have := (List.pairwise_cons.1 hst.2).1 v e'
              rw [beats_no] at this; omega
        show q.most ≤ p.most
        rcases e2 with e2 | e2
        · rw [e2]; exact hvm
        · rw [beats_iff] at e2; omega
    rw [knock_eq hw hk h1]; rfl
/-! what a sale obeys -/
end Am
namespace Am

end Am
namespace Am
/-- a sum over the first n numbers -/
def sumN : Nat → (Nat → Int) → Int
  | 0, _ => 0
  | n + 1, f => sumN n f + f n
theorem sumN_congr {n : Nat} {f g : Nat → Int} (h : ∀ i, i < n → f i = g i) : sumN n f = sumN n g := by
  induction n with
  | zero => rfl
  | succ n ih => rw [sumN, sumN, ih (fun i hi => h i (by omega)), h n (by omega)]
theorem sumN_add (n : Nat) (f g : Nat → Int) : sumN n (fun i => f i + g i) = sumN n f + sumN n g := by
  induction n with
  | zero => rfl
  | succ n ih => rw [sumN, sumN, sumN, ih]; omega
theorem sumN_le {n : Nat} {f g : Nat → Int} (h : ∀ i, i < n → f i ≤ g i) : sumN n f ≤ sumN n g := by
  induction n with
  | zero => exact Int.le_refl _
  | succ n ih => rw [sumN, sumN]; have := ih (fun i hi => h i (by omega)); have := h n (by omega); omega
theorem sumN_one {n k : Nat} (f : Nat → Int) (hk : k < n) (h : ∀ i, i < n → i ≠ k → f i = 0) : sumN n f = f k := by
  induction n with
  | zero => omega
  | succ n ih =>
    rw [sumN]
    by_cases e : n = k
    · subst e
      rw [sumN_congr (g := fun _ => 0) (fun i hi => h i (by omega) (by omega))]
      have : ∀ m, sumN m (fun _ => 0) = 0 := by intro m; induction m with
        | zero => rfl
        | succ m ih => rw [sumN, ih]; rfl
      rw [this]; omega
    · rw [ih (by omega) (fun i hi hne => h i (by omega) hne), h n (by omega) e]; omega
theorem sumN_zero (n : Nat) : sumN n (fun _ => 0) = 0 := by
  induction n with
  | zero => rfl
  | succ n ih => rw [sumN, ih]; rfl
/-- one place is another -/
theorem sumN_upd {n k : Nat} (f g : Nat → Int) (hk : k < n) (h : ∀ i, i < n → i ≠ k → f i = g i) : sumN n f = sumN n g - g k + f k := by
  have := sumN_add n g (fun i => f i - g i)
  rw [sumN_one (fun i => f i - g i) hk (fun i hi hne => by have := h i hi hne; omega)] at this
  rw [sumN_congr (f := f) (g := fun i => g i + (f i - g i)) (fun i _ => by omega), this]; omega

/-- who gets which lot: of n bidders, of m lots -/
structure Val (n m : Nat) (σ : Nat → Option Nat) : Prop where
  lot : ∀ i j, i < n → σ i = some j → j < m
  inj : ∀ i i' j, i < n → i' < n → σ i = some j → σ i' = some j → i = i'
def gt (w : Nat → Nat → Int) (i : Nat) : Option Nat → Int
  | none => 0
  | some j => w i j
def wt (n : Nat) (w : Nat → Nat → Int) (σ : Nat → Option Nat) : Int := sumN n (fun i => gt w i (σ i))
/-- a lot more, that is as lot k -/
def dup (m k : Nat) (w : Nat → Nat → Int) : Nat → Nat → Int := fun i j => w i (if j = m then k else j)
structure IsMax (n m : Nat) (w : Nat → Nat → Int) (M : Int) : Prop where
  at_ : ∃ σ, Val n m σ ∧ wt n w σ = M
  le : ∀ σ, Val n m σ → wt n w σ ≤ M
theorem IsMax.uniq {n m : Nat} {w : Nat → Nat → Int} {M M' : Int} (h : IsMax n m w M) (h' : IsMax n m w M') : M = M' := by
  obtain ⟨σ, h1, h2⟩ := h.at_
  obtain ⟨σ', h3, h4⟩ := h'.at_
  have := h.le σ' h3
  have := h'.le σ h1
  omega

/-! ### Exchange -/
inductive Dx (n m : Nat) (σ τ : Nat → Option Nat) : Nat → Prop
  | start {i : Nat} : i < n → τ i = some m → Dx n m σ τ i
  | step {i j b : Nat} : Dx n m σ τ i → σ i = some b → j < n → τ j = some b → Dx n m σ τ j
theorem Dx.lt {n m : Nat} {σ τ : Nat → Option Nat} {i : Nat} (h : Dx n m σ τ i) : i < n := by cases h <;> assumption
theorem Dx.lot {n m : Nat} {σ τ : Nat → Option Nat} {i b : Nat} (h : Dx n m σ τ i) (hb : τ i = some b) : b = m ∨ ∃ j, Dx n m σ τ j ∧ σ j = some b := by
  cases h with
  | start _ h => rw [h] at hb; injection hb with hb; exact .inl hb.symm
  | step h1 h2 _ h3 => rw [h3] at hb; injection hb with hb; subst hb; exact .inr ⟨_, h1, h2⟩
open Classical in
noncomputable def xs (n m : Nat) (σ τ : Nat → Option Nat) (i : Nat) : Option Nat := if Dx n m σ τ i then τ i else σ i
open Classical in
section
variable {n m : Nat} {σ τ : Nat → Option Nat}
theorem Dx.some {i : Nat} (h : Dx n m σ τ i) : τ i ≠ none := by cases h <;> simp [*]
end
/-! ### Lots that are renamed -/
/-! ### What a bidder adds -/
inductive Rx (n s i : Nat) (σ τ : Nat → Option Nat) : Nat → Prop
  | start {j : Nat} : j < n → τ j = some s → Rx n s i σ τ j
  | step {j j' b : Nat} : Rx n s i σ τ j → j ≠ i → σ j = some b → j' < n → τ j' = some b → Rx n s i σ τ j'
theorem Rx.lt {n s i : Nat} {σ τ : Nat → Option Nat} {j : Nat} (h : Rx n s i σ τ j) : j < n := by cases h <;> assumption
/-- the most that others can get without bidder i -/
structure IsMaxO (n m i : Nat) (w : Nat → Nat → Int) (M : Int) : Prop where
  at_ : ∃ σ, Val n m σ ∧ σ i = none ∧ wt n w σ = M
  le : ∀ σ, Val n m σ → σ i = none → wt n w σ ≤ M
/-! ### Prices -/
/-- an award (who gets what, at so much above the reserve of each lot) that is fair -/
structure FairA (n m : Nat) (w : Nat → Nat → Int) (σ : Nat → Option Nat) (q : Nat → Int) : Prop where
  val : Val n m σ
  nn : ∀ j, j < m → 0 ≤ q j
  un : ∀ j, j < m → (∀ i, i < n → σ i ≠ some j) → q j = 0
  ir : ∀ i j, i < n → σ i = some j → q j ≤ w i j
  ef : ∀ i j, i < n → j < m → w i j - q j ≤ gt (fun i j => w i j - q j) i (σ i)
/-- what is paid above the reserves, summed by lots or by bidders -/
theorem sum_img {n m : Nat} {σ : Nat → Option Nat} (q : Nat → Int) (h : Val n m σ) (h0 : ∀ j, j < m → 0 ≤ q j) : sumN n (fun i => gt (fun _ j => q j) i (σ i)) ≤ sumN m q := by
  induction n generalizing q with
  | zero =>
    rw [sumN]
    have := sumN_le (n := m) (f := fun _ => 0) (g := q) h0
    rw [sumN_zero] at this; exact this
  | succ n ih =>
    rw [sumN]
    have hv : Val n m σ := ⟨fun i j hi => h.lot i j (by omega), fun i i' j hi hi' => h.inj i i' j (by omega) (by omega)⟩
    cases hn : σ n with
    | none => have := ih q hv h0; show _ + (0 : Int) ≤ _; omega
    | some j =>
      have hj := h.lot n j (by omega) hn
      have := ih (fun k => if k = j then 0 else q k) hv (fun k hk => by split; omega; exact h0 k hk)
      rw [sumN_upd (fun k => if k = j then 0 else q k) q hj (fun k _ hne => by simp only [if_neg hne])] at this
      rw [if_pos rfl] at this
      have e : sumN n (fun i => gt (fun _ k => if k = j then 0 else q k) i (σ i)) = sumN n (fun i => gt (fun _ k => q k) i (σ i)) := sumN_congr fun i hi => by
        cases hi' : σ i with
        | none => rfl
        | some k =>
          show (if k = j then 0 else q k) = q k
          rw [if_neg]
          rintro rfl
          have := h.inj i n k (by omega) (by omega) hi' hn
          omega
      rw [e] at this
      show _ + q j ≤ _
      omega
theorem sum_img_eq {n m : Nat} {σ : Nat → Option Nat} (q : Nat → Int) (h : Val n m σ) (h0 : ∀ j, j < m → (∀ i, i < n → σ i ≠ some j) → q j = 0) : sumN n (fun i => gt (fun _ j => q j) i (σ i)) = sumN m q := by
  induction n generalizing q with
  | zero =>
    rw [sumN, sumN_congr (g := fun _ => 0) (fun j hj => h0 j hj (fun i hi => absurd hi (Nat.not_lt_zero i))), sumN_zero]
  | succ n ih =>
    rw [sumN]
    have hv : Val n m σ := ⟨fun i j hi => h.lot i j (by omega), fun i i' j hi hi' => h.inj i i' j (by omega) (by omega)⟩
    cases hn : σ n with
    | none =>
      have := ih q hv (fun j hj hno => h0 j hj (fun i hi e => by
        by_cases hin : i = n
        · rw [hin, hn] at e; cases e
        · exact hno i (by omega) e))
      show _ + (0 : Int) = _; omega
    | some j =>
      have hj := h.lot n j (by omega) hn
      have := ih (fun k => if k = j then 0 else q k) hv (fun k hk hno => by
        split
        · rfl
        · rename_i hne
          exact h0 k hk (fun i hi e => by
            by_cases hin : i = n
            · rw [hin, hn] at e; injection e with e; exact hne e.symm
            · exact hno i (by omega) e))
      rw [sumN_upd (fun k => if k = j then 0 else q k) q hj (fun k _ hne => by simp only [if_neg hne])] at this
      rw [if_pos rfl] at this
      have e : sumN n (fun i => gt (fun _ k => if k = j then 0 else q k) i (σ i)) = sumN n (fun i => gt (fun _ k => q k) i (σ i)) := sumN_congr fun i hi => by
        cases hi' : σ i with
        | none => rfl
        | some k =>
          show (if k = j then 0 else q k) = q k
          rw [if_neg]
          rintro rfl
          have := h.inj i n k (by omega) (by omega) hi' hn
          omega
      rw [e] at this
      show _ + q j = _
      omega
theorem wt_split {n : Nat} {w : Nat → Nat → Int} {q : Nat → Int} {σ : Nat → Option Nat} : wt n w σ = sumN n (fun i => gt (fun i j => w i j - q j) i (σ i)) + sumN n (fun i => gt (fun _ j => q j) i (σ i)) := by
  unfold wt
  rw [← sumN_add]
  refine sumN_congr fun i _ => ?_
  cases σ i with
  | none => rfl
  | some j => show w i j = w i j - q j + q j; omega
theorem FairA.gain {n m : Nat} {w : Nat → Nat → Int} {σ : Nat → Option Nat} {q : Nat → Int} (h : FairA n m w σ q) {i : Nat} (hi : i < n) : 0 ≤ gt (fun i j => w i j - q j) i (σ i) := by
  cases e : σ i with
  | none => exact Int.le_refl _
  | some j => have := h.ir i j hi e; show 0 ≤ w i j - q j; omega
/-- the worth of a fair award is the sum of all gains and prices -/
theorem FairA.sum {n m : Nat} {w : Nat → Nat → Int} {σ : Nat → Option Nat} {q : Nat → Int} (h : FairA n m w σ q) : wt n w σ = sumN n (fun i => gt (fun i j => w i j - q j) i (σ i)) + sumN m q := by
  rw [wt_split (q := q), sum_img_eq q h.val h.un]
theorem FairA.bound {n m : Nat} {w : Nat → Nat → Int} {σ : Nat → Option Nat} {q : Nat → Int} (h : FairA n m w σ q) {τ : Nat → Option Nat} {m' : Nat} {q' : Nat → Int} {w' : Nat → Nat → Int} (ht : Val n m' τ) (hq : ∀ j, j < m' → 0 ≤ q' j) (hw : ∀ i j, i < n → j < m' → w' i j - q' j ≤ gt (fun i j => w i j - q j) i (σ i)) :
    wt n w' τ ≤ sumN n (fun i => gt (fun i j => w i j - q j) i (σ i)) + sumN m' q' := by
  rw [wt_split (q := q')]
  have h1 := sum_img q' ht hq
  have h2 : sumN n (fun i => gt (fun i j => w' i j - q' j) i (τ i)) ≤ sumN n (fun i => gt (fun i j => w i j - q j) i (σ i)) := by
    refine sumN_le fun i hi => ?_
    cases e : τ i with
    | none => exact h.gain hi
    | some j => exact hw i j hi (ht.lot i j hi e)
  omega
/-- a fair award is worth most, and its prices are at least what another lot of the kind would be worth -/
theorem FairA.best {n m : Nat} {w : Nat → Nat → Int} {σ : Nat → Option Nat} {q : Nat → Int} (h : FairA n m w σ q) {M : Int} (hM : IsMax n m w M) : wt n w σ = M := by
  obtain ⟨τ, ht, hτ⟩ := hM.at_
  have h1 := hM.le σ h.val
  have h2 := h.bound ht h.nn (fun i j hi hj => h.ef i j hi hj)
  rw [← h.sum] at h2
  omega
theorem FairA.least {n m k : Nat} {w : Nat → Nat → Int} {σ : Nat → Option Nat} {q : Nat → Int} (h : FairA n m w σ q) {M Mk : Int} (hM : IsMax n m w M) (hMk : IsMax n (m + 1) (dup m k w) Mk) (hk : k < m) : Mk - M ≤ q k := by
  obtain ⟨τ, ht, hτ⟩ := hMk.at_
  have h2 := h.bound (q' := fun j => if j = m then q k else q j) (w' := dup m k w) ht (fun j hj => by split; exact h.nn k hk; exact h.nn j (by omega)) (fun i j hi hj => by
    unfold dup
    split
    · exact h.ef i k hi hk
    · exact h.ef i j hi (by omega))
  rw [sumN, sumN_congr (n := m) (f := fun j => if j = m then q k else q j) (g := q) (fun j hj => by rw [if_neg (by omega)]), if_pos rfl] at h2
  have h3 := h.best hM
  rw [h.sum] at h3
  omega
end Am
