/- A range over a function, both sides. Conditions: none; a library of lemmas. -/
import Derived.Test.YtafmgkiddhappaaDoorSxI
import Derived.RangeFuncLeaves
import Derived.RangeFuncRecord
import Derived.RangeFuncSeq
namespace Go.Sx
open Go.RowKit

/-- What an iterator keeps: it hands over the elements of the list, one by one, as long as it is told to go on; whatever holds between two rounds ('J'), and is not felled by new blocks, holds then. -/
def Iter {α : Type} (P : Program) (gf : Nat) (lb : Array Value) (encs : α → List Value) (xs : List α) (Sit : List Fact) : Prop :=
  ∀ (l : Nat) (J Jx : Nat → World → Prop) (W : World), (∀ k W W', J k W → Grow W W' → J k W') → (∀ k W W', Jx k W → Grow W W' → Jx k W') → (∀ k W, J k W → ∀ g ∈ Sit, g.P W ∧ ∀ b, g.fp b → b < W.heap.size) →
    (∀ k x W, xs[k]? = some x → J k W → YieldAt (FR none) 0 P l (encs x).toArray W (fun e W' => (e = .returned (.bool true) ∧ J (k + 1) W') ∨ (e = .returned (.bool false) ∧ Jx (k + 1) W'))) → J 0 W →
    Calls P gf (#[.func (.yield l) #[] #[]] ++ lb) W (fun e W' => (∃ v, e = .returned v) ∧ (J xs.length W' ∨ ∃ k, Jx k W'))

theorem Hp.put {F : Nat → Prop} {w0 w : World} {b : Nat} {ob ob' : Obj} {O O' S : List Fact} (h : Hp F w0 O S w) (hr : Rep O (ownB b ob) (ownB b ob') O') : Hp F w0 O' S (w.putObj b ob') := by
  have hb : b < w.heap.size := ((h.own _ hr.mem).2 b rfl).1
  refine h.write hr rfl rfl rfl (by simp [World.putObj]) (fun c hc hne => ?_) ?_ (fun c hc => ?_)
  · exact World.putObj_heap_other (fun e => hne (show c = b from e))
  · exact World.putObj_heap_same hb
  · have : c = b := hc
    subst this
    exact ⟨by simpa [World.putObj] using hb, .inl rfl⟩

theorem Hp.at {F : Nat → Prop} {w0 w : World} {b : Nat} {ob : Obj} {O S : List Fact} (h : Hp F w0 O S w) (hm : ownB b ob ∈ O) : w.heap[b]? = some ob := (h.own _ hm).1

/-- The temporaries of a round. -/
def parR : List (Nat × Value) → Regs → Regs
  | [], L => L
  | p :: r, L => parR r (p :: L)
theorem parR_ok {N : Nat} {D : List Deferred} : ∀ (ps : List (Nat × Value)) (L : Regs) (t : Array Value), (∀ p ∈ ps, p.1 < N) → RegsOk N D L ⟨t, D⟩ → RegsOk N D (parR ps L) ⟨ps.foldl (fun t p => t.setIfInBounds p.1 p.2) t, D⟩
  | [], _, _, _, h => h
  | p :: r, L, t, hN, h => by
    refine parR_ok r (p :: L) (t.setIfInBounds p.1 p.2) (fun q hq => hN q (List.mem_cons_of_mem _ hq)) ?_
    have := h.put (hN p (List.mem_cons_self ..)) p.2
    exact this

section
variable {P : Program} {F : Nat → Prop} {w0 : World} {N : Nat} {S : List Fact}
/-- Within a round of loop l. -/
abbrev CR (P : Program) (F : Nat → Prop) (w0 : World) (N l : Nat) : Cx := ⟨P, some l, F, w0, N, []⟩

/-- How a round's body may be left. -/
def BodyQ {Y Z : Type} (F : Nat → Prop) (w0 : World) (S : List Fact) (l Db : Nat) (r1 : Obj) (inv : Y → Prop) (Ox : Y → List Fact) (cz : Z → Code) (Oz : Z → List Fact) : Exit → Act → World → Prop
  | .normal, _, w => ∃ y, inv y ∧ Hp F w0 (ownB l r1 :: ownB Db (.deferred (some [])) :: Ox y) S w
  | .ret, _, w => ∃ z, cz z = .ret ∧ Hp F w0 (ownB l r1 :: ownB Db (.deferred (some [])) :: Oz z) S w
  | .exit id, _, w => ∃ z, cz z = .exit id ∧ Hp F w0 (ownB l r1 :: ownB Db (.deferred (some [])) :: Oz z) S w
  | _, _, _ => False
/-- Between the assignment and the body. -/
def BegQ (C : Cx) (S : List Fact) (l : Nat) (r0 r1 : Obj) (body : Code) (Q : Exit → Act → World → Prop) : Exit → Act → World → Prop :=
  NQ fun a w => ∃ L O O', RegsOk C.N C.D L a ∧ Hp C.F C.w0 O S w ∧ Rep O (ownB l r0) (ownB l r1) O' ∧ CJ C body Q L O' S

theorem ej_beg {C : Cx} {l : Nat} {r0 r1 : Obj} {body : Code} {Q : Exit → Act → World → Prop} {L : Regs} {O O' : List Fact} [hu : UpdB O l r0 r1 O'] (h : CJ C body Q L O' S) : EJ C (BegQ C S l r0 r1 body Q) .normal L O S :=
  fun _ _ hr hp => ⟨L, O, O', hr, hp, hu.rep, h⟩
theorem ej_rd {Y Z : Type} {C : Cx} {l Db : Nat} {r1 : Obj} {inv : Y → Prop} {Ox : Y → List Fact} {cz : Z → Code} {Oz : Z → List Fact} {L : Regs} {O : List Fact} (y : Y) (hi : inv y) [hO : SubO (ownB l r1 :: ownB Db (.deferred (some [])) :: Ox y) O] :
    EJ C (BodyQ C.F C.w0 S l Db r1 inv Ox cz Oz) .normal L O S := fun _ _ _ hp => ⟨y, hi, hp.sub hO.sub (fun _ h => h)⟩
theorem ej_rdx {Y Z : Type} {C : Cx} {l Db : Nat} {r1 : Obj} {inv : Y → Prop} {Ox : Y → List Fact} {cz : Z → Code} {Oz : Z → List Fact} {L : Regs} {O : List Fact} {id : Nat} (z : Z) (hz : cz z = .exit id) [hO : SubO (ownB l r1 :: ownB Db (.deferred (some [])) :: Oz z) O] :
    EJ C (BodyQ C.F C.w0 S l Db r1 inv Ox cz Oz) (.exit id) L O S := fun _ _ _ hp => ⟨z, hz, hp.sub hO.sub (fun _ h => h)⟩
theorem ej_rdr {Y Z : Type} {C : Cx} {l Db : Nat} {r1 : Obj} {inv : Y → Prop} {Ox : Y → List Fact} {cz : Z → Code} {Oz : Z → List Fact} {L : Regs} {O : List Fact} (z : Z) (hz : cz z = .ret) [hO : SubO (ownB l r1 :: ownB Db (.deferred (some [])) :: Oz z) O] :
    EJ C (BodyQ C.F C.w0 S l Db r1 inv Ox cz Oz) .ret L O S := fun _ _ _ hp => ⟨z, hz, hp.sub hO.sub (fun _ h => h)⟩

/-- THE CALLER'S RULE. -/
theorem cj_range {α Y Z : Type} {g : Operand} {ps : List Tmp} {assign body : Code} {Q : Exit → Act → World → Prop} {L : Regs} {O : List Fact} {gf : Nat} {lb : Array Value} {encs : α → List Value} {xs : List α} {Sit : List Fact}
    (hseq : Iter P gf lb encs xs Sit) (inv : Nat → Y → Prop) (Ox : Nat → Y → List Fact) (cz : Z → Code) (Oz : Z → List Fact) (y0 : Y) (h0 : inv 0 y0)
    (hg : val L g = some (.func (.func gf) #[] lb)) (hf : ∀ args w, (callFunc gf args).run P w = .ok (.enter gf args) w) (hps : ∀ x, (encs x).length = ps.length) (hpN : (ps.all fun p => Nat.blt p N) = true) [hO : SubO (Ox 0 y0) O] [hSit : SubO Sit S]
    (round : ∀ (l Db : Nat) (r0 r1 : Obj) k x y, xs[k]? = some x → inv k y → CJ (CR P F w0 N l) assign (BegQ (CR P F w0 N l) S l r0 r1 body (BodyQ F w0 S l Db r1 (inv (k + 1)) (Ox (k + 1)) cz Oz)) (parR (ps.zip (encs x)) L) (ownB l r0 :: ownB Db (.deferred (some [])) :: Ox k y) S)
    (done : ∀ Db y, inv xs.length y → EJ ⟨P, none, F, w0, N, [⟨.collected Db, #[]⟩]⟩ Q .normal L (ownB Db (.deferred (some [])) :: Ox xs.length y) S)
    (stop : ∀ Db z, CJ ⟨P, none, F, w0, N, [⟨.collected Db, #[]⟩]⟩ (cz z) Q L (ownB Db (.deferred (some [])) :: Oz z) S) :
    CJ ⟨P, none, F, w0, N, []⟩ (.rangeFunc g ps.toArray assign body) Q L O S := by
  intro a w hr hp
  refine wpIn_rangeFunc (n := 0) ?_
  intro fn hfn
  obtain ⟨rec, hrec⟩ : ∃ rec : LoopState → Option Code → Loop, rec = fun st pe => { state := st, pending := pe, fn, tmps := a.tmps, params := ps.toArray, assign, body, defers := w.heap.size } := ⟨_, rfl⟩
  obtain ⟨W1, hW1⟩ : ∃ W1, (w.alloc (.deferred (some []))).alloc (.loop (rec .ready none)) = W1 := ⟨_, rfl⟩
  have hpW : Hp F w0 (ownB (w.heap.size + 1) (.loop (rec .ready none)) :: ownB w.heap.size (.deferred (some [])) :: Ox 0 y0) S W1 := by
    rw [← hW1]
    have h1 : Hp F w0 (ownB w.heap.size (.deferred (some [])) :: Ox 0 y0) S (w.alloc (.deferred (some []))) :=
      (hp.sub hO.sub (fun _ h => h)).addO ((Below.refl _ _).alloc (Nat.le_refl _) _) _ (heap_alloc_new w _) (fun b hb => by
        have : b = w.heap.size := hb
        subst this; simp)
    refine h1.addO ((Below.refl _ _).alloc (Nat.le_refl _) _) _ ?_ (fun b hb => by
      have : b = w.heap.size + 1 := hb
      subst this; simp)
    have := heap_alloc_new (w.alloc (.deferred (some []))) (.loop (rec .ready none))
    rwa [World.size_alloc] at this
  refine ⟨w.heap.size + 1, [{ target := .collected w.heap.size, args := #[] }], W1, { target := .fn (.func gf) lb, args := #[.func (.yield (w.heap.size + 1)) #[] #[]] }, W1, gf,
    #[.func (.yield (w.heap.size + 1)) #[] #[]] ++ lb, W1, ?_, ?_, fun _ _ => trivial, ?_, (fun h => by cases h), ?_⟩
  · rw [← hW1, hrec]; exact run_enterLoop_outer _ _ _ _ _
  · simp only [resolve, hr.val hg]
    simp [go_sem]
  · simp [invoke, hf]
  · refine callsIn_FR.2 ((hseq (w.heap.size + 1) (fun k W => ∃ y, inv k y ∧ Hp F w0 (ownB (w.heap.size + 1) (.loop (rec .ready none)) :: ownB w.heap.size (.deferred (some [])) :: Ox k y) S W)
      (fun _ W => ∃ z, Hp F w0 (ownB (w.heap.size + 1) (.loop (rec .done (some (cz z)))) :: ownB w.heap.size (.deferred (some [])) :: Oz z) S W) W1 ?_ ?_ ?_ ?_ ⟨y0, h0, hpW⟩).mono ?_)
    · rintro k W W' ⟨y, hi, h⟩ hgr; exact ⟨y, hi, h.grow hgr⟩
    · rintro k W W' ⟨z, h⟩ hgr; exact ⟨z, h.grow hgr⟩
    · rintro k W ⟨y, hi, h⟩ g hg'
      exact ⟨(h.shared g (hSit.sub.subset hg')).1, (h.shared g (hSit.sub.subset hg')).2.1⟩
    · rintro k x W hx ⟨y, hi, h⟩
      have hl : W.heap[w.heap.size + 1]? = some (.loop (rec .ready none)) := h.at (List.mem_cons_self ..)
      have hy := run_yield (P := P) (args := (encs x).toArray) hl (by rw [hrec]; simpa using hps x)
      rw [hrec] at hy
      refine ⟨fn, _, assign, body, hy, roundIn_of_wpIn hfn ?_⟩
      have hreg : RegsOk N [] (parR (ps.zip (encs x)) L) ⟨(ps.toArray.zip (encs x).toArray).foldl (fun tmps (t, a) => tmps.setIfInBounds t a) a.tmps, []⟩ := by
        have h1 := parR_ok (D := []) (ps.zip (encs x)) L a.tmps (fun p hp => by
          have := List.all_eq_true.1 hpN p.1 (List.of_mem_zip hp).1
          simpa [Nat.blt_eq] using this) ⟨rfl, hr.size, hr.look⟩
        have e : (ps.toArray.zip (encs x).toArray).foldl (fun tmps (t, a) => tmps.setIfInBounds t a) a.tmps = (ps.zip (encs x)).foldl (fun t p => t.setIfInBounds p.1 p.2) a.tmps := by simp
        rw [e]; exact h1
      refine wpIn_mono (round _ w.heap.size (.loop (rec .ready none)) (.loop (rec .busy none)) k x y hx hi _ W hreg h) ?_
      intro e a1 w1 hq
      cases e <;> first | exact (show False from hq).elim | skip
      obtain ⟨L1, O1, O2, hr1, hp1, hrep, hb⟩ := hq
      have hl1 : w1.heap[w.heap.size + 1]? = some (.loop (rec .ready none)) := hp1.at hrep.mem
      refine ⟨_, run_beginRound hl1 (by rw [hrec]), ?_⟩
      have hp2 := hp1.put hrep
      have hbusy : ({ rec .ready none with state := .busy } : Loop) = rec .busy none := by rw [hrec]
      rw [hbusy]
      refine wpIn_mono (hb a1 _ hr1 hp2) ?_
      intro e a2 w2 hq2
      have fin : ∀ (jump : Option Code) (Oq : List Fact), Hp F w0 (ownB (w.heap.size + 1) (.loop (rec .busy none)) :: ownB w.heap.size (.deferred (some [])) :: Oq) S w2 →
          ∃ w3, (Instr.endRound (w.heap.size + 1) jump).run P w2 = .ok (.bool jump.isNone) w3 ∧ Hp F w0 (ownB (w.heap.size + 1) (.loop (rec (if jump.isNone then .ready else .done) jump)) :: ownB w.heap.size (.deferred (some [])) :: Oq) S w3 := fun jump Oq hq3 => by
        have hl2 : w2.heap[w.heap.size + 1]? = some (.loop (rec .busy none)) := hq3.at (List.mem_cons_self ..)
        refine ⟨_, run_endRound (P := P) jump hl2, ?_⟩
        have hb2 : ({ rec .busy none with state := if jump.isNone then .ready else .done, pending := jump } : Loop) = rec (if jump.isNone then .ready else .done) jump := by rw [hrec]
        rw [hb2]
        exact hq3.put (.head _ _ _)
      cases e with
      | normal =>
        obtain ⟨y', hi', hp3⟩ := hq2
        obtain ⟨w3, hr3, hp4⟩ := fin none _ hp3
        exact ⟨_, w3, hr3, .inl ⟨rfl, y', hi', hp4⟩⟩
      | ret =>
        obtain ⟨z, hz, hp3⟩ := hq2
        obtain ⟨w3, hr3, hp4⟩ := fin (some .ret) _ hp3
        exact ⟨_, w3, hr3, .inr ⟨rfl, z, by rw [hz]; exact hp4⟩⟩
      | exit id =>
        obtain ⟨z, hz, hp3⟩ := hq2
        obtain ⟨w3, hr3, hp4⟩ := fin (some (.exit id)) _ hp3
        exact ⟨_, w3, hr3, .inr ⟨rfl, z, by rw [hz]; exact hp4⟩⟩
      | goto t => exact (show False from hq2).elim
      | panic ch => exact (show False from hq2).elim
      | outgrown => exact (show False from hq2).elim
    · rintro e W2 ⟨⟨v, rfl⟩, h⟩
      have hd : ∀ (Db : Nat), RegsOk N [⟨.collected Db, #[]⟩] L { a with defers := [{ target := .collected Db, args := #[] }] ++ a.defers } := fun Db => by
        have := hr.defers
        exact ⟨by show [_] ++ a.defers = _; rw [this]; rfl, hr.size, hr.look⟩
      rcases h with ⟨y, hi, h⟩ | ⟨_, z, h⟩
      · have hl : W2.heap[w.heap.size + 1]? = some (.loop (rec .ready none)) := h.at (List.mem_cons_self ..)
        refine ⟨none, _, (by have := run_endLoop (P := P) hl (by rw [hrec]; simp); rw [hrec] at this; exact this), ?_⟩
        exact done w.heap.size y hi _ _ (hd _) ((h.put (.head _ _ _)).sub (List.sublist_cons_self ..) (fun _ h => h))
      · have hl : W2.heap[w.heap.size + 1]? = some (.loop (rec .done (some (cz z)))) := h.at (List.mem_cons_self ..)
        refine ⟨some (cz z), _, (by have := run_endLoop (P := P) hl (by rw [hrec]; simp); rw [hrec] at this; exact this), ?_⟩
        exact stop w.heap.size z _ _ (hd _) ((h.put (.head _ _ _)).sub (List.sublist_cons_self ..) (fun _ h => h))
end

/-! ### A function that holds such a loop -/
theorem enter_pureM {P : Program} {f : FuncId} {fn : Func} {c : Code} {args : List Value} {w : World} {R : Ending → World → Prop} (S : List Fact)
    (hf : P.funcs[f]? = some fn) (hb : fn.body = some c) (hn : args.length ≤ fn.ntmps) (hS : ∀ g ∈ S, g.P w ∧ ∀ b, g.fp b → b < w.heap.size)
    (h : CJ ⟨P, none, fun b => b < w.heap.size, w, fn.ntmps, []⟩ c (bodyPostM (FR none) 0 P fn R) (regsOf 0 args) [] S) : Calls P f args.toArray w R := by
  refine callsIn_FR.1 (callsIn_of_wp_marks (F := FR none) (n := 0) hf hb trivial (h _ w ⟨rfl, ?_, fun k v hk => ?_⟩ ⟨rfl, rfl, rfl, Nat.le_refl _, fun b hb => ⟨hb, rfl⟩, by simp, by simp, fun g hg => ⟨(hS g hg).1, (hS g hg).2, by simp⟩⟩))
  · simp; omega
  · obtain ⟨_, h2⟩ := look_regsOf args 0 k v hk
    simp only [Nat.sub_zero] at h2
    have hk' : k < args.length := (List.getElem?_eq_some_iff.1 h2).1
    rw [Array.getElem?_append_left (by simpa using hk')]
    simpa using h2

section
variable {C : Cx} {L : Regs} {O S : List Fact}
theorem ej_retM0 {fn : Func} {R : Ending → World → Prop} {t : Tmp} {v : Value} (hD : C.D = []) (h : fn.results = #[.tmp t]) (hv : look L t = some v) (hR : ∀ w, Hp C.F C.w0 O S w → R (.returned v) w) :
    EJ C (bodyPostM (FR none) 0 C.P fn R) .ret L O S := fun a w hr hp => by
  show LeavesInM _ _ _ _ _ _ _ _ _
  rw [hr.defers, hD]
  exact ⟨v, by rw [results_tmp h, getD_of_look hr hv], hR w hp⟩
theorem ej_retM1 {fn : Func} {R : Ending → World → Prop} {t : Tmp} {v : Value} {Db : Nat} {O' : List Fact} (hD : C.D = [⟨.collected Db, #[]⟩]) (h : fn.results = #[.tmp t]) (hv : look L t = some v) [hu : UpdB O Db (.deferred (some [])) (.deferred none) O'] (hR : ∀ w, Hp C.F C.w0 O' S w → R (.returned v) w) :
    EJ C (bodyPostM (FR none) 0 C.P fn R) .ret L O S := fun a w hr hp => by
  show LeavesInM _ _ _ _ _ _ _ _ _
  rw [hr.defers, hD]
  refine ⟨by simp, .inl ⟨Db, _, rfl, run_takeDeferred (hp.at hu.rep.mem), ?_⟩⟩
  exact ⟨v, by rw [results_tmp h, getD_of_look hr hv], hR _ (hp.put hu.rep)⟩
end

/-! ### The iterator's side -/
/-- The same, from this world on. -/
abbrev Cx.rb (C : Cx) (W : World) : Cx := ⟨C.P, C.ro, fun b => b < W.heap.size, W, C.N, C.D⟩
theorem Hp.base (W : World) (S : List Fact) (hS : ∀ g ∈ S, g.P W ∧ ∀ b, g.fp b → b < W.heap.size) : Hp (fun b => b < W.heap.size) W [] S W :=
  ⟨rfl, rfl, rfl, Nat.le_refl _, fun b hb => ⟨hb, rfl⟩, by simp, by simp, fun g hg => ⟨(hS g hg).1, (hS g hg).2, by simp⟩⟩

section
variable {C : Cx} {Q : Exit → Act → World → Prop} {L : Regs} {O S : List Fact} {ops : Array Oper} {rest : List Oper} {ty : TypeId} {pos : String} {aft : Array Edge} {d : Nat}
theorem oj_yield {l : Nat} {x : Operand} {xs : List Operand} {vs : List Value} {ats : Array TypeId} {T U : World → Prop} (S' : List Fact) (hro : C.ro = none) (hx : val L x = some (.func (.yield l) #[] #[])) (hv : valsO L xs = some vs)
    (hy : ∀ w, Hp C.F C.w0 O S w → YieldAt (FR none) 0 C.P l vs.toArray w (fun e W' => (e = .returned (.bool true) ∧ T W') ∨ (e = .returned (.bool false) ∧ U W'))) (hdN : Nat.blt d C.N = true)
    (k1 : ∀ W', T W' → (∀ g ∈ S', g.P W' ∧ ∀ b, g.fp b → b < W'.heap.size) ∧ OJ (C.rb W') ops Q rest ((d, .bool true) :: L) [] S') (k2 : ∀ W', U W' → OJ (C.rb W') ops Q rest ((d, .bool false) :: L) [] []) :
    OJ C ops Q (⟨some d, .call ⟨.value x, xs.toArray, ats⟩, ty, pos, aft, none⟩ :: rest) L O S := by
  intro a w hr hp
  have hdN' : d < C.N := by simpa [Nat.blt_eq] using hdN
  have hvs := valsO_eval hr xs vs hv
  obtain ⟨fn, tmps, assign, body, hrun, hR⟩ := hy w hp
  unfold wpListIn
  rw [if_pos (by simp [Region.wanted])]
  refine ⟨fun _ _ => trivial, ?_⟩
  rw [Oper.semAt_eq _ _ _ (by intro c h; cases h)]
  have hr2 : (execOp a.eval ⟨some d, .call ⟨.value x, xs.toArray, ats⟩, ty, pos, aft, none⟩).run C.P w = .ok (.round l fn tmps assign body) w := by
    rw [← hvs] at hrun
    simp [execOp, resolve, hr.val hx, Deferred.ofValue, invoke, hrun]
  rw [hr2]
  refine ⟨(fun h => by cases h), ?_⟩
  have hF : FR C.ro = FR none := by rw [hro]
  rw [hF]
  refine RoundIn.mono hR fun e W' he => ?_
  rcases he with ⟨rfl, hT⟩ | ⟨rfl, hU⟩
  · have := (k1 W' hT).2 (a.put (some d) (.bool true)) W' (hr.put hdN' _) (Hp.base W' S' (k1 W' hT).1)
    rw [← hF]; exact this
  · have := (k2 W' hU) (a.put (some d) (.bool false)) W' (hr.put hdN' _) (Hp.base W' [] (by simp))
    rw [← hF]; exact this

theorem cj_loopW {c : Code} {X : Type} (I : X → Act → World → Prop) (μ : X → Nat) (x0 : X) (h0 : ∀ a w, RegsOk C.N C.D L a → Hp C.F C.w0 O S w → I x0 a w)
    (round : ∀ x a w, I x a w → c.wpIn (FR C.ro) 0 C.P (Exit.then (fun a w => ∃ x', μ x' < μ x ∧ I x' a w) Q) a w) : CJ C (.loop c) Q L O S := by
  intro a w hr hp b k cs hro hb hroom
  have key : ∀ n x a w, μ x = n → I x a w →
      ∃ e a' w', Q e a' w' ∧ ArrivesIn (Machine.fenced C.P (FR C.ro)) C.P (lone (b.atR a (.code c :: .inLoop c :: k)) cs w) b k cs e a' w' := by
    intro n
    induction n using Nat.strongRecOn with
    | _ n ih =>
      intro x a w hn hI
      obtain ⟨e, a₁, w₁, hq, harr⟩ := round x a w hI b (.inLoop c :: k) cs hro hb hroom
      cases e with
      | normal =>
        obtain ⟨x', hlt, hI'⟩ := hq
        obtain ⟨e₂, a₂, w₂, hq₂, harr₂⟩ := ih (μ x') (hn ▸ hlt) x' a₁ w₁ rfl hI'
        exact ⟨e₂, a₂, w₂, hq₂, .of_steps (StepsIn.trans harr (.one (fenced_calm hb hroom rfl) stepR_inLoop)) harr₂⟩
      | exit id => exact ⟨_, a₁, w₁, hq, .pass (x := .inLoop c) rfl (fun _ _ => .inl (by simp)) harr⟩
      | goto l => exact ⟨_, a₁, w₁, hq, .pass (x := .inLoop c) rfl (fun _ _ => .inl (by simp)) harr⟩
      | ret => exact ⟨_, a₁, w₁, hq, .pass (x := .inLoop c) rfl (fun _ _ => .inl (by simp)) harr⟩
      | panic ch => exact ⟨_, a₁, w₁, hq, .pass (x := .inLoop c) rfl (fun _ _ => .inl (by simp)) harr⟩
      | outgrown => exact ⟨_, a₁, w₁, hq, .pass (x := .inLoop c) rfl (fun _ _ => .inl (by simp)) harr⟩
  obtain ⟨e, a', w', hq, harr⟩ := key _ x0 a w rfl (h0 a w hr hp)
  exact ⟨e, a', w', hq, .of_steps (.one (fenced_calm hb hroom rfl) stepR_loop) harr⟩

/-- A loop whose rounds begin anew: what holds of the world is said by 'J' (it is not felled by new blocks), and the facts S hold wherever J does. -/
def LoopB (C : Cx) {X : Type} (inv : X → Prop) (Lx : X → Regs) (J : X → World → Prop) (x : X) (a : Act) (w : World) : Prop := inv x ∧ RegsOk C.N C.D (Lx x) a ∧ J x w
theorem cj_loopB {c : Code} {X : Type} (inv : X → Prop) (Lx : X → Regs) (J : X → World → Prop) (S' : List Fact) (μ : X → Nat) (x0 : X) (h0 : inv x0) (hL : subR L (Lx x0)) (hJ0 : ∀ w, Hp C.F C.w0 O S w → J x0 w) (hJS : ∀ x w, J x w → ∀ g ∈ S', g.P w ∧ ∀ b, g.fp b → b < w.heap.size)
    (round : ∀ x W, inv x → J x W → CJ (C.rb W) c (Exit.then (fun a w => ∃ x', μ x' < μ x ∧ LoopB C inv Lx J x' a w) Q) (Lx x) [] S') : CJ C (.loop c) Q L O S :=
  cj_loopW (LoopB C inv Lx J) μ x0 (fun _ w hr hp => ⟨h0, hr.subR hL, hJ0 w hp⟩) fun x a w ⟨hi, hr, hJ⟩ => round x w hi hJ a w hr (Hp.base w S' (hJS x w hJ))
theorem ej_nxB {X : Type} {inv : X → Prop} {Lx : X → Regs} {J : X → World → Prop} {μ : X → Nat} {m : Nat} {W : World} (x' : X) (hm : μ x' < m) (hi : inv x') (hL : subR L (Lx x')) (hJ : ∀ w, Grow W w → J x' w) :
    EJ (C.rb W) (Exit.then (fun a w => ∃ x', μ x' < m ∧ LoopB C inv Lx J x' a w) Q) .normal L O S := fun _ w hr hp => ⟨x', hm, hi, hr.subR hL, hJ w hp.below⟩
end

/-! ### Blocks that are only read -/
class HasBS (S : List Fact) (b : Nat) (ob : outParam Obj) : Prop where
  mem : ownB b ob ∈ S
instance (priority := 900) HasBS.tail (f : Fact) (S : List Fact) (b : Nat) (ob : Obj) [h : HasBS S b ob] : HasBS (f :: S) b ob := ⟨List.mem_cons_of_mem _ h.mem⟩
instance (priority := 1000) HasBS.head (S : List Fact) (b : Nat) (ob : Obj) : HasBS (ownB b ob :: S) b ob := ⟨List.mem_cons_self ..⟩
section
variable {C : Cx} {Q : Exit → Act → World → Prop} {L : Regs} {O S : List Fact} {ops : Array Oper} {rest : List Oper} {ty : TypeId} {pos : String} {aft : Array Edge} {dst : Option Tmp} {gu : Option (Nat × Bool)} {t : TypeId} {x : Operand}
theorem y_loadS1 {b k e : Nat} {cs : List Value} {v : Value} [h : HasBS S b (cellsB e cs)] (ha : ∀ w, (isAgg t).run C.P w = .ok false w) (hx : val L x = some (.pointer (some ⟨b, k, none⟩))) (hv : cs[k]? = some v) :
    Yi C ⟨dst, .load t x, ty, pos, aft, gu⟩ L O S v :=
  yi_val (by intro c h; cases h) fun a w hr hp => by
    have hc : w.cell? ⟨b, k, none⟩ = some v := by rw [cell_of_row w b k cs.toArray e (0, 0) ((hp.shared _ h.mem).1)]; simpa using hv
    simp [execOp, hr.val hx, Instr.loadAt, Instr.sureAddr, loadVar, ha, hc]
theorem y_loadSN {b k e n : Nat} {cs vs : List Value} [h : HasBS S b (cellsB e cs)] (ha : ∀ w, (isAgg t).run C.P w = .ok true w) (hs : ∀ w, (sizeOf t).run C.P w = .ok n w) (hx : val L x = some (.pointer (some ⟨b, k, none⟩))) [hv : Tk n k cs vs] :
    Yi C ⟨dst, .load t x, ty, pos, aft, gu⟩ L O S (.agg vs.toArray) :=
  yi_val (by intro c h; cases h) fun a w hr hp => by
    have hl : (loadCells ⟨b, k, none⟩ n).run C.P w = .ok vs.toArray w := by
      rw [← hv.len]
      refine run_loadCells_list (P := C.P) w ⟨b, k, none⟩ vs fun j v hj => ?_
      have hjn : j < n := by have := (List.getElem?_eq_some_iff.1 hj).1; rw [hv.len] at this; exact this
      rw [addr_add, cell_of_row w b (k + j) cs.toArray e (0, 0) ((hp.shared _ h.mem).1)]
      simpa [hv.eq j hjn] using hj
    simp [execOp, hr.val hx, Instr.loadAt, Instr.sureAddr, loadVar, ha, hs, hl]

/-- A call that turns the elements of a slice of one's own, and nothing else. -/
theorem oj_mutOw {α : Type} {f : FuncId} {xs : List Operand} {vs : List Value} {ats : Array TypeId} {d : Nat} {e sz c : Nat} {enc : α → List Value} {A : Option Addr} {us : List α} {O' : List Fact} {v : Value} (us' : List α) (hf : ∀ args w, (callFunc f args).run C.P w = .ok (.enter f args) w) (hv : valsO L xs = some vs)
    [hu : UpdOw O A e sz enc c us (ow e sz enc A c us') O']
    (hc : ∀ w, Hp C.F C.w0 O S w → (ow e sz enc A c us).P w → Calls C.P f vs.toArray w (fun en w' => en = .returned v ∧ Mut (ow e sz enc A c us) w w' ∧ (ow e sz enc A c us').P w')) (hdN : Nat.blt d C.N = true)
    (k : OJ C ops Q rest ((d, v) :: L) O' S) : OJ C ops Q (⟨some d, .call ⟨.value (.func f), xs.toArray, ats⟩, ty, pos, aft, none⟩ :: rest) L O S := by
  intro a w hr hp
  have hdN' : d < C.N := by simpa [Nat.blt_eq] using hdN
  unfold wpListIn
  rw [if_pos (by simp [Region.wanted])]
  refine ⟨fun _ _ => trivial, ?_⟩
  rw [Oper.semAt_eq _ _ _ (by intro c h; cases h), run_call hr hf hv]
  refine ⟨fun h => (by cases h), callsIn_FR.2 ((hc w hp (hp.own _ hu.rep.mem).1).mono fun en w' hx => ?_)⟩
  obtain ⟨rfl, hm, hP⟩ := hx
  refine k _ w' (hr.put hdN' _) ?_
  refine hp.write hu.rep hm.os hm.tape hm.output hm.size hm.same hP (fun b hb => ?_)
  have hb' : (Value.slice A us'.length c).ownBlock = some b := hb
  have hb2 : (Value.slice A us.length c).ownBlock = some b := by
    rw [← hb']; cases A <;> rfl
  exact ⟨Nat.lt_of_lt_of_le ((hp.own _ hu.rep.mem).2 b hb2).1 hm.size, .inl hb2⟩
end
end Go.Sx
