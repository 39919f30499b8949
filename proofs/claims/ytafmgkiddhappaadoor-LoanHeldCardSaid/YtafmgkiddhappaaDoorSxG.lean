/- A region that draws its order and also writes or lays memory: a plan (which operations may be done when, and what is then known) serves every order. Conditions: none; a library of lemmas. -/
import Derived.Test.YtafmgkiddhappaaDoorSxF
namespace Go.Sx
open Go.RowKit

/-- What stands in order: whoever looks at a temporary that the j-th operation writes waits for it (and it is among those that have been planned), or is waited for (and it is not). -/
def seesOk (l : List Oper) (his : List Nat) (i : Nat) (o : Oper) : Bool :=
  (List.range l.length).all fun j => match (l.toArray[j]?).bind (·.dst) with
    | none => true
    | some d => !((looksO l.toArray o).contains d) || (waits o j && his.contains j && !(Nat.beq i j)) || ((l.toArray[j]?).any (waits · i) && !(his.contains j) && !(Nat.beq i j))

/-- The whole region: temporaries are written once; edges lead back; nobody waits for several channels or lays a call aside. -/
def planOk (l : List Oper) : Bool :=
  (l.zipIdx).all fun p => !isSelect p.1.op && (p.1.after.all fun e => !Region.binds .any e || Nat.blt e.on p.2) && (match p.1.op with | .defer _ => false | _ => true) &&
    (match p.1.dst with
     | none => true
     | some d => (l.zipIdx).all fun q => Nat.beq p.2 q.2 || !(q.1.dst == some d))

/-- Those that are not planned and wait for none that is not. -/
def openAt (l : List Oper) (his : List Nat) : List Nat :=
  (List.range l.length).filter fun i => !(his.contains i) && ((l.toArray[i]?).any fun o => o.after.all fun e => !Region.binds .any e || his.contains e.on)

/-- An operation that has been planned: its number, what was known, what it yields. -/
structure Pend where
  i : Nat
  o : Oper
  L : Regs
  v : Value

section
variable {C : Cx} {S : List Fact}

/-- After an operation that writes: what may still be carried out yields the same. -/
def Later (C : Cx) (l : List Oper) (pend : List Pend) (o : Oper) (O S : List Fact) : Prop := ∀ p ∈ pend, waits o p.i = true ∨ Steps1 C l.toArray O S p.o p.L p.v

/-- It goes on, and nothing else happens. -/
def NQ (K : Act → World → Prop) : Exit → Act → World → Prop
  | .normal, a, w => K a w
  | _, _, _ => False

/-- THE PLAN: in at most n steps. -/
def Plan (C : Cx) (l : List Oper) (Q : Exit → Act → World → Prop) : Nat → List Nat → List Pend → Regs → List Fact → List Fact → Prop
  | 0, his, _, L, O, S => (∀ i, i < l.length → i ∈ his) ∧ EJ C Q .normal L O S
  | n + 1, his, pend, L, O, S =>
    (∃ i o d v, l[i]? = some o ∧ o.dst = some d ∧ d < C.N ∧ i ∉ his ∧ seesOk l his i o = true ∧ Steps1 C l.toArray O S o L v ∧ Plan C l Q n (i :: his) (⟨i, o, L, v⟩ :: pend) ((d, v) :: L) O S) ∨
    ((∃ i, i < l.length ∧ i ∉ his) ∧ ∀ i ∈ openAt l his, ∃ o, l[i]? = some o ∧ o.guard = none ∧ (∀ d, o.dst = some d → d < C.N) ∧ seesOk l his i o = true ∧
        OJ C l.toArray (NQ fun a' w' => ∃ L' O' S', RegsOk C.N C.D L' a' ∧ Hp C.F C.w0 O' S' w' ∧ Later C l pend o O' S' ∧ Plan C l Q n (i :: his) pend L' O' S') [o] L O S)

/-- The same operation in another act that agrees on all that it looks at. -/
theorem wpIn_transfer {o : Oper} {a a' : Act} {w : World} {next next' : Act → World → Prop} {Q : Exit → Act → World → Prop} (hev : execOp a'.eval o = execOp a.eval o) (hnd : ∀ c, o.op ≠ .defer c) (hdef : ∀ b w', next b w' → b.defers = a.defers)
    {K : Act → World → Prop} (hk : ∀ u w', next (a.put o.dst u) w' → next' (a'.put o.dst u) w') (h : o.wpIn (FR C.ro) 0 C.P a w next (NQ K)) : o.wpIn (FR C.ro) 0 C.P a' w next' Q := by
  unfold Oper.wpIn at *
  refine ⟨fun _ _ => trivial, ?_⟩
  have h2 := h.2
  rw [Oper.semAt_eq _ _ _ hnd] at h2 ⊢
  rw [hev]
  generalize hr : (execOp a.eval o).run C.P w = r at h2
  cases r with
  | ok n w' =>
    cases n <;> simp only [Oper.uponIn] at h2 ⊢
    case value v => exact hk _ _ h2
    case skip => exact hk _ _ h2
    case defer d =>
      have := hdef _ _ h2
      cases hd : o.dst <;> simp [hd, Act.put] at this
    case enter f args => exact ⟨h2.1, h2.2.mono fun e w'' he => by cases e <;> first | exact hk _ _ he | exact (show False from he).elim | (obtain ⟨_, _, hx⟩ := he; exact (show False from hx).elim)⟩
    case row row args => exact ⟨h2.1, h2.2.mono fun v w'' he => hk _ _ he⟩
    case round l f tmps as body => exact ⟨h2.1, h2.2.mono fun e w'' he => by cases e <;> first | exact hk _ _ he | exact (show False from he).elim | (obtain ⟨_, _, hx⟩ := he; exact (show False from hx).elim)⟩
  | halt x w' => cases x <;> simp only [Oper.uponIn] at h2 <;> exact (show False from h2).elim

/-- What the check on the whole region says. -/
theorem planOk_dist {l : List Oper} (h : planOk l = true) {i j : Nat} {o o' : Oper} {d : Nat} (hi : l[i]? = some o) (hj : l[j]? = some o') (hd : o.dst = some d) (hd' : o'.dst = some d) : i = j := by
  have h1 := List.all_eq_true.1 h (o, i) (by rw [List.mem_zipIdx_iff_getElem?]; exact hi)
  simp only [hd, Bool.and_eq_true] at h1
  have h2 := List.all_eq_true.1 h1.2 (o', j) (by rw [List.mem_zipIdx_iff_getElem?]; exact hj)
  simp only [hd', beq_self_eq_true, Bool.not_true, Bool.or_false] at h2
  exact Nat.eq_of_beq_eq_true h2
theorem planOk_back {l : List Oper} (h : planOk l = true) {i : Nat} {o : Oper} (hi : l[i]? = some o) : ∀ e ∈ o.after, Region.binds .any e = true → e.on < i := by
  intro e he hb
  have h1 := List.all_eq_true.1 h (o, i) (by rw [List.mem_zipIdx_iff_getElem?]; exact hi)
  simp only [Bool.and_eq_true] at h1
  have h2 := Array.all_eq_true'.1 h1.1.1.2 e he
  simp only [hb, Bool.not_true, Bool.false_or] at h2
  simpa [Nat.blt_eq] using h2
theorem planOk_sel {l : List Oper} (h : planOk l = true) {i : Nat} {o : Oper} (hi : l[i]? = some o) : (∀ cs b, o.op ≠ .select cs b) ∧ ∀ c, o.op ≠ .defer c := by
  have h1 := List.all_eq_true.1 h (o, i) (by rw [List.mem_zipIdx_iff_getElem?]; exact hi)
  simp only [Bool.and_eq_true] at h1
  refine ⟨fun cs b e => ?_, fun c e => ?_⟩
  · have := h1.1.1.1; simp [e, isSelect] at this
  · have := h1.1.2; simp [e] at this

/-- While the region is on its way. -/
structure Rt (C : Cx) (l : List Oper) (a0 : Act) (his : List Nat) (pend : List Pend) (L : Regs) (O S : List Fact) (listed : Array Bool) (a : Act) (w : World) (as : Act) : Prop where
  sz : listed.size = l.length
  defers : a.defers = C.D
  size : a.tmps.size = C.N
  hp : Hp C.F C.w0 O S w
  closed : ∀ (j : Nat) (o : Oper), l[j]? = some o → listed.getD j false = true → ∀ e ∈ o.after, Region.binds .any e = true → listed.getD e.on false = true
  reg : RegsOk C.N C.D L as
  sub : ∀ (j : Nat), listed.getD j false = true → j ∈ his
  done : ∀ (j : Nat) (o : Oper) (d : Nat), l[j]? = some o → o.dst = some d → listed.getD j false = true → a.tmps[d]? = as.tmps[d]?
  rest : ∀ t : Nat, (∀ (j : Nat) (o : Oper), l[j]? = some o → o.dst = some t → listed.getD j false = false) → a.tmps[t]? = a0.tmps[t]?
  srest : ∀ t : Nat, (∀ (j : Nat) (o : Oper), l[j]? = some o → o.dst = some t → j ∉ his) → as.tmps[t]? = a0.tmps[t]?
  pendOk : ∀ j ∈ his, j < l.length → listed.getD j false = false → ∃ p ∈ pend, p.i = j ∧ l[j]? = some p.o ∧ (∃ d, p.o.dst = some d ∧ d < C.N ∧ as.tmps[d]? = some p.v) ∧ Steps1 C l.toArray O S p.o p.L p.v ∧
    ∃ hj aj, RegsOk C.N C.D p.L aj ∧ seesOk l hj j p.o = true ∧ (∀ x ∈ hj, x ∈ his) ∧ (∀ (t i : Nat) (o : Oper), i ∈ hj → l[i]? = some o → o.dst = some t → aj.tmps[t]? = as.tmps[t]?) ∧
      (∀ t : Nat, (∀ (i : Nat) (o : Oper), l[i]? = some o → o.dst = some t → i ∉ hj) → aj.tmps[t]? = a0.tmps[t]?)

variable {l : List Oper} {a0 : Act} {his : List Nat} {pend : List Pend} {L : Regs} {O : List Fact} {listed : Array Bool} {a as : Act} {w : World} {Q : Exit → Act → World → Prop}

theorem Rt.agree (hok : planOk l = true) (h : Rt C l a0 his pend L O S listed a w as) {i : Nat} {o : Oper} (hun : listed.getD i false = false) (hpre : ∀ e ∈ o.after, Region.binds .any e = true → listed.getD e.on false = true)
    {hj : List Nat} {aj : Act} (hsee : seesOk l hj i o = true) (h1 : ∀ (t i : Nat) (o : Oper), i ∈ hj → l[i]? = some o → o.dst = some t → aj.tmps[t]? = as.tmps[t]?) (h2 : ∀ t : Nat, (∀ (i : Nat) (o : Oper), l[i]? = some o → o.dst = some t → i ∉ hj) → aj.tmps[t]? = a0.tmps[t]?) :
    ∀ t ∈ looksO l.toArray o, a.tmps[t]? = aj.tmps[t]? := by
  intro t ht
  by_cases hx : ∃ (j : Nat) (o' : Oper), l[j]? = some o' ∧ o'.dst = some t
  · obtain ⟨j, o', hj', hd'⟩ := hx
    have hjl : j < l.length := (List.getElem?_eq_some_iff.1 hj').1
    have h3 := List.all_eq_true.1 hsee j (List.mem_range.2 hjl)
    have hb : (l.toArray[j]?).bind (·.dst) = some t := by simp [hj', hd']
    simp only [hb, List.contains_iff_mem.2 ht, Bool.not_true, Bool.false_or, Bool.or_eq_true, Bool.and_eq_true] at h3
    rcases h3 with ⟨⟨h4, h5⟩, _⟩ | ⟨⟨h4, h5⟩, _⟩
    · obtain ⟨e, he, hbe⟩ := Array.any_eq_true'.1 h4
      simp only [Bool.and_eq_true, beq_iff_eq] at hbe
      have hl : listed.getD j false = true := by rw [← hbe.2]; exact hpre e he hbe.1
      rw [h.done j o' t hj' hd' hl, h1 t j o' (by simpa using h5) hj' hd']
    · have h6 : waits o' i = true := by
        have : l.toArray[j]? = some o' := by simpa using hj'
        rw [this] at h4; simpa using h4
      obtain ⟨e, he, hbe⟩ := Array.any_eq_true'.1 h6
      simp only [Bool.and_eq_true, beq_iff_eq] at hbe
      have hjun : listed.getD j false = false := by
        rcases hb2 : listed.getD j false with _ | _
        · rfl
        · have := h.closed j o' hj' hb2 e he hbe.1
          rw [hbe.2, hun] at this; cases this
      rw [h.rest t (fun j' o'' hj'' hd'' => by rw [planOk_dist hok hj'' hj' hd'' hd']; exact hjun), h2 t (fun j' o'' hj'' hd'' => by
        rw [planOk_dist hok hj'' hj' hd'' hd']
        simpa using h5)]
  · have hx' : ∀ (j : Nat) (o : Oper), l[j]? = some o → o.dst ≠ some t := fun j o hj hd => hx ⟨j, o, hj, hd⟩
    rw [h.rest t (fun j o hj hd => absurd hd (hx' j o hj)), h2 t (fun j o hj hd => absurd hd (hx' j o hj))]

theorem exec_same {ops : Array Oper} {o : Oper} {a aj : Act} (hsel : ∀ cs b, o.op ≠ .select cs b) (h : ∀ t ∈ looksO ops o, a.tmps[t]? = aj.tmps[t]?) :
    execOp a.eval o = execOp aj.eval o ∧ Region.wanted o (yielded ops a.tmps) = Region.wanted o (yielded ops aj.tmps) := by
  constructor
  · refine execOp_congr o hsel fun x hx => ?_
    cases x with
    | tmp t =>
      have := h t (List.mem_append_left _ (List.mem_filterMap.2 ⟨.tmp t, by simpa using hx, rfl⟩))
      simp [Act.eval, Array.getD_eq_getD_getElem?, this]
    | const v => rfl
    | global g => rfl
    | func f => rfl
  · unfold Region.wanted
    cases hg : o.guard with
    | none => rfl
    | some jb =>
      obtain ⟨j, b⟩ := jb
      have : yielded ops a.tmps j = yielded ops aj.tmps j := by
        unfold yielded
        cases hb : (ops[j]?).bind (·.dst) with
        | none => rfl
        | some t =>
          have := h t (List.mem_append_right _ (by rw [hg]; simp only [hb]; simp))
          simp only [Option.bind_some, this]
      simp only [this]

theorem put_get {a : Act} {N : Nat} (hs : a.tmps.size = N) {d : Nat} (hd : d < N) (v : Value) (t : Nat) : (a.put (some d) v).tmps[t]? = if d = t then some v else a.tmps[t]? := by
  simp only [Act.put, Array.getElem?_setIfInBounds]
  by_cases e : d = t
  · subst e; simp [hs, hd]
  · simp [e]

/-- A planned operation is carried out. -/
theorem Rt.exec (hok : planOk l = true) (h : Rt C l a0 his pend L O S listed a w as) {i : Nat} {o : Oper} (hi : l[i]? = some o) (hun : listed.getD i false = false) (hpre : ∀ e ∈ o.after, Region.binds .any e = true → listed.getD e.on false = true) (hin : i ∈ his)
    {K : Act → World → Prop} (hK : ∀ a' w', Rt C l a0 his pend L O S (listed.setIfInBounds i true) a' w' as → K a' w') : wpOpIn (FR C.ro) 0 C.P l.toArray Q i K a w := by
  have hil : i < l.length := (List.getElem?_eq_some_iff.1 hi).1
  have hils : i < listed.size := by rw [h.sz]; exact hil
  obtain ⟨p, hp, hpi, hpo, ⟨d, hd, hdN, hv⟩, hst, hj, aj, haj, hsee, hsub, h1, h2⟩ := h.pendOk i hin hil hun
  rw [hi] at hpo; injection hpo with hpo; subst hpo
  have hag := exec_same (planOk_sel hok hi).1 (h.agree hok hun hpre hsee h1 h2)
  have hnext : ∀ w', Grow w w' → K (a.put p.o.dst p.v) w' := fun w' hg => hK _ _ (by
    rw [hd]
    refine ⟨by simp [h.sz], h.defers, by simp [Act.put, h.size], h.hp.grow hg, fun j o' hj hl e he hbe => ?_, h.reg, fun j hl => ?_, fun j o' d' hj' hd' hl => ?_, fun t ht => ?_, h.srest, fun j hjh hjl hjun => ?_⟩
    · rw [getD_set hils] at hl ⊢
      by_cases h3 : i = e.on
      · rw [if_pos h3]
      · rw [if_neg h3]
        by_cases h4 : i = j
        · subst h4
          rw [hi] at hj; injection hj with hj; subst hj
          exact hpre e he hbe
        · rw [if_neg h4] at hl
          exact h.closed j o' hj hl e he hbe
    · rw [getD_set hils] at hl
      by_cases h4 : i = j
      · subst h4; exact hin
      · rw [if_neg h4] at hl; exact h.sub j hl
    · rw [put_get h.size hdN]
      by_cases h4 : i = j
      · subst h4
        rw [hi] at hj'; injection hj' with hj'; subst hj'
        rw [hd] at hd'; injection hd' with hd'; subst hd'
        rw [if_pos rfl, hv]
      · rw [getD_set hils, if_neg h4] at hl
        rw [if_neg (fun e => h4 (planOk_dist hok hi hj' hd (by rw [hd', e])))]
        exact h.done j o' d' hj' hd' hl
    · have hne : d ≠ t := fun e => by
        have := ht i p.o hi (by rw [hd, e])
        rw [getD_set hils, if_pos rfl] at this; cases this
      rw [put_get h.size hdN, if_neg hne]
      refine h.rest t (fun j o' hj hd' => ?_)
      have := ht j o' hj hd'
      rw [getD_set hils] at this
      by_cases h4 : i = j
      · rw [if_pos h4] at this; cases this
      · rwa [if_neg h4] at this
    · rw [getD_set hils] at hjun
      by_cases h4 : i = j
      · rw [if_pos h4] at hjun; cases hjun
      · rw [if_neg h4] at hjun
        exact h.pendOk j hjh hjl hjun)
  unfold wpOpIn
  have ho : l.toArray[i]? = some p.o := by simpa using hi
  rw [ho]
  show (if _ then _ else _)
  rcases hst aj w haj h.hp with ⟨hw, hnd, hy⟩ | ⟨hw, hu⟩
  · rw [hag.2, if_pos hw]
    refine uponIn_of_yields hnd ?_ hnext
    unfold YieldsV at hy ⊢
    rw [hag.1]; exact hy
  · rw [hag.2, if_neg (by rw [hw]; simp)]
    refine ⟨fun _ _ => trivial, ?_⟩
    rw [← hu]
    exact hnext w (Below.refl _ _)

/-- One more is planned. -/
theorem Rt.plan (hok : planOk l = true) (h : Rt C l a0 his pend L O S listed a w as) {i d : Nat} {o : Oper} {v : Value} (hi : l[i]? = some o) (hd : o.dst = some d) (hdN : d < C.N) (hnew : i ∉ his) (hsee : seesOk l his i o = true) (hs : Steps1 C l.toArray O S o L v) :
    Rt C l a0 (i :: his) (⟨i, o, L, v⟩ :: pend) ((d, v) :: L) O S listed a w (as.put (some d) v) := by
  have hne : ∀ (j : Nat) (o' : Oper) (d' : Nat), j ∈ his → l[j]? = some o' → o'.dst = some d' → d ≠ d' := fun j o' d' hj hj' hd' e => hnew (by rw [planOk_dist hok hi hj' hd (by rw [hd', e])]; exact hj)
  refine ⟨h.sz, h.defers, h.size, h.hp, h.closed, h.reg.put hdN v, fun j hl => List.mem_cons_of_mem _ (h.sub j hl), fun j o' d' hj hd' hl => ?_, h.rest, fun t ht => ?_, fun j hj hjl hun => ?_⟩
  · rw [put_get h.reg.size hdN, if_neg (hne j o' d' (h.sub j hl) hj hd')]
    exact h.done j o' d' hj hd' hl
  · have hdt : d ≠ t := fun e => ht i o hi (by rw [hd, e]) (by simp)
    rw [put_get h.reg.size hdN, if_neg hdt]
    exact h.srest t (fun j o' hj hd' hin => ht j o' hj hd' (List.mem_cons_of_mem _ hin))
  · by_cases hji : j = i
    · subst hji
      have hv : (as.put (some d) v).tmps[d]? = some v := by rw [put_get h.reg.size hdN, if_pos rfl]
      have h1 : ∀ (t i : Nat) (o : Oper), i ∈ his → l[i]? = some o → o.dst = some t → as.tmps[t]? = (as.put (some d) v).tmps[t]? := fun t i' o' hin hi' hd' => by rw [put_get h.reg.size hdN, if_neg (hne i' o' t hin hi' hd')]
      exact ⟨⟨j, o, L, v⟩, List.mem_cons_self .., rfl, hi, ⟨d, hd, hdN, hv⟩, hs, his, as, h.reg, hsee, fun x hx => List.mem_cons_of_mem _ hx, h1, h.srest⟩
    · have hjh : j ∈ his := by
        rcases List.mem_cons.1 hj with h1 | h1
        · exact absurd h1 hji
        · exact h1
      obtain ⟨p, hp, hpi, hpo, ⟨d', hd', hdN', hv⟩, hst, hj', aj, haj, hsee', hsub, h1, h2⟩ := h.pendOk j hjh hjl hun
      refine ⟨p, by simp [hp], hpi, hpo, ⟨d', hd', hdN', ?_⟩, hst, hj', aj, haj, hsee', fun x hx => List.mem_cons_of_mem _ (hsub x hx), fun t i' o' hin hi' hd'' => ?_, h2⟩
      · rw [put_get h.reg.size hdN, if_neg (hne j p.o d' hjh hpo hd')]; exact hv
      · rw [put_get h.reg.size hdN, if_neg (hne i' o' t (hsub i' hin) hi' hd'')]
        exact h1 t i' o' hin hi' hd''

/-- One that writes has been carried out. -/
theorem Rt.fire (hok : planOk l = true) (h : Rt C l a0 his pend L O S listed a w as) {i : Nat} {o : Oper} {u : Value} {w' : World} {L' : Regs} {O' S' : List Fact} (hi : l[i]? = some o) (hdN : ∀ d, o.dst = some d → d < C.N) (hnew : i ∉ his) (hpre : ∀ e ∈ o.after, Region.binds .any e = true → listed.getD e.on false = true)
    (hr : RegsOk C.N C.D L' (as.put o.dst u)) (hp' : Hp C.F C.w0 O' S' w') (hlater : Later C l pend o O' S') : Rt C l a0 (i :: his) pend L' O' S' (listed.setIfInBounds i true) (a.put o.dst u) w' (as.put o.dst u) := by
  have hil : i < l.length := (List.getElem?_eq_some_iff.1 hi).1
  have hils : i < listed.size := by rw [h.sz]; exact hil
  have hne : ∀ (j : Nat) (o' : Oper) (d d' : Nat), o.dst = some d → j ∈ his → l[j]? = some o' → o'.dst = some d' → d ≠ d' := fun j o' d d' hd hj hj' hd' e => hnew (by rw [planOk_dist hok hi hj' hd (by rw [hd', e])]; exact hj)
  have hsame : ∀ (j : Nat) (o' : Oper) (d' : Nat), j ∈ his → l[j]? = some o' → o'.dst = some d' → (as.put o.dst u).tmps[d']? = as.tmps[d']? := fun j o' d' hj hj' hd' => by
    cases hd : o.dst with
    | none => rfl
    | some d => rw [put_get h.reg.size (hdN d hd), if_neg (hne j o' d d' hd hj hj' hd')]
  refine ⟨by simp [h.sz], ?_, ?_, hp', fun j o' hj hl e he hbe => ?_, hr, fun j hl => ?_, fun j o' d' hj hd' hl => ?_, fun t ht => ?_, fun t ht => ?_, fun j hj hjl hun => ?_⟩
  · cases hd : o.dst <;> simpa [Act.put] using h.defers
  · cases hd : o.dst <;> simpa [Act.put] using h.size
  · rw [getD_set hils] at hl ⊢
    by_cases h3 : i = e.on
    · rw [if_pos h3]
    · rw [if_neg h3]
      by_cases h4 : i = j
      · subst h4
        rw [hi] at hj; injection hj with hj; subst hj
        exact hpre e he hbe
      · rw [if_neg h4] at hl
        exact h.closed j o' hj hl e he hbe
  · rw [getD_set hils] at hl
    by_cases h4 : i = j
    · subst h4; simp
    · rw [if_neg h4] at hl; exact List.mem_cons_of_mem _ (h.sub j hl)
  · by_cases h4 : i = j
    · subst h4
      rw [hi] at hj; injection hj with hj; subst hj
      rw [hd', put_get h.size (hdN d' hd'), put_get h.reg.size (hdN d' hd')]
      simp
    · rw [getD_set hils, if_neg h4] at hl
      rw [hsame j o' d' (h.sub j hl) hj hd', ← h.done j o' d' hj hd' hl]
      cases hd : o.dst with
      | none => rfl
      | some d => rw [put_get h.size (hdN d hd), if_neg (hne j o' d d' hd (h.sub j hl) hj hd')]
  · have h5 : (a.put o.dst u).tmps[t]? = a.tmps[t]? := by
      cases hd : o.dst with
      | none => rfl
      | some d =>
        rw [put_get h.size (hdN d hd), if_neg]
        intro e
        have := ht i o hi (by rw [hd, e])
        rw [getD_set hils, if_pos rfl] at this; cases this
    rw [h5]
    refine h.rest t (fun j o' hj hd' => ?_)
    have := ht j o' hj hd'
    rw [getD_set hils] at this
    by_cases h4 : i = j
    · rw [if_pos h4] at this; cases this
    · rwa [if_neg h4] at this
  · have h5 : (as.put o.dst u).tmps[t]? = as.tmps[t]? := by
      cases hd : o.dst with
      | none => rfl
      | some d =>
        rw [put_get h.reg.size (hdN d hd), if_neg]
        intro e
        exact ht i o hi (by rw [hd, e]) (by simp)
    rw [h5]
    exact h.srest t (fun j o' hj hd' hin => ht j o' hj hd' (List.mem_cons_of_mem _ hin))
  · rw [getD_set hils] at hun
    by_cases h4 : i = j
    · rw [if_pos h4] at hun; cases hun
    · rw [if_neg h4] at hun
      have hjh : j ∈ his := by
        rcases List.mem_cons.1 hj with h1 | h1
        · exact absurd h1.symm h4
        · exact h1
      obtain ⟨p, hp, hpi, hpo, ⟨d', hd', hdN', hv⟩, hst, hj', aj, haj, hsee', hsub, h1, h2⟩ := h.pendOk j hjh hjl hun
      refine ⟨p, hp, hpi, hpo, ⟨d', hd', hdN', by rw [hsame j p.o d' hjh hpo hd']; exact hv⟩, ?_, hj', aj, haj, hsee', fun x hx => List.mem_cons_of_mem _ (hsub x hx), fun t i' o' hin hi' hd'' => ?_, h2⟩
      · rcases hlater p hp with hw | hs
        · exfalso
          obtain ⟨e, he, hbe⟩ := Array.any_eq_true'.1 hw
          simp only [Bool.and_eq_true, beq_iff_eq] at hbe
          have := hpre e he hbe.1
          rw [hbe.2, hpi, hun] at this; cases this
        · exact hs
      · rw [hsame i' o' t (hsub i' hin) hi' hd'']
        exact h1 t i' o' hin hi' hd''

theorem plan_any (hok : planOk l = true) : ∀ (fuel n : Nat) (his : List Nat) (pend : List Pend) (L : Regs) (O S : List Fact) (listed : Array Bool) (a : Act) (w : World) (as : Act), Plan C l Q n his pend L O S → Rt C l a0 his pend L O S listed a w as →
    ((List.range l.length).filter fun i => !listed.getD i true).length ≤ fuel → wpAnyIn (FR C.ro) 0 C.P .any l.toArray Q fuel listed a w := by
  have hget : ∀ {listed : Array Bool}, listed.size = l.length → ∀ i, i < l.length → listed.getD i true = listed.getD i false := by
    intro listed hsz i hi
    simp [Array.getD_eq_getD_getElem?, Array.getElem?_eq_getElem (show i < listed.size by omega)]
  have hready : ∀ (listed : Array Bool), listed.size = l.length → Region.ready .any l.toArray listed = [] → ∀ i, i < l.length → listed.getD i false = true := by
    intro listed hsz hr i
    induction i using Nat.strongRecOn with
    | _ i ih =>
      intro hi
      rcases hb : listed.getD i false with _ | _
      · exfalso
        have hmem : i ∈ Region.ready .any l.toArray listed := by
          refine mem_ready.2 ⟨by rw [hget hsz i hi]; exact hb, l[i], by simp [hi], fun e he hbd => ?_⟩
          have h3 := planOk_back hok (List.getElem?_eq_getElem hi) e he hbd
          exact ih e.on h3 (by omega)
        rw [hr] at hmem; cases hmem
      · rfl
  have hnone : ∀ (listed : Array Bool), listed.size = l.length → ((List.range l.length).filter fun i => !listed.getD i true).length ≤ 0 → ∀ i, i < l.length → listed.getD i false = true := by
    intro listed hsz hc i hi
    rcases hb : listed.getD i false with _ | _
    · exfalso
      have : i ∈ (List.range l.length).filter fun i => !listed.getD i true := by
        simp [List.mem_filter, hi]
        have := hget hsz i hi
        rw [hb] at this
        simpa [Array.getD_eq_getD_getElem?] using this
      have h2 := List.length_pos_of_mem this
      omega
    · rfl
  have hnoready : ∀ (listed : Array Bool), listed.size = l.length → (∀ i, i < l.length → listed.getD i false = true) → Region.ready .any l.toArray listed = [] := by
    intro listed hsz hall
    rcases hr : Region.ready .any l.toArray listed with _ | ⟨x, xs⟩
    · rfl
    · exfalso
      have hx : x ∈ Region.ready .any l.toArray listed := by rw [hr]; simp
      obtain ⟨h1, o, ho, _⟩ := mem_ready.1 hx
      have hxl : x < l.length := by
        have : l[x]? = some o := by simpa using ho
        exact (List.getElem?_eq_some_iff.1 this).1
      rw [hget hsz x hxl, hall x hxl] at h1
      cases h1
  have hend : ∀ (his : List Nat) (pend : List Pend) (L : Regs) (O S : List Fact) (listed : Array Bool) (a : Act) (w : World) (as : Act), EJ C Q .normal L O S → Rt C l a0 his pend L O S listed a w as → (∀ i, i < l.length → listed.getD i false = true) → Q .normal a w := by
    intro his pend L O S listed a w as hK hm hall
    refine hK a w ⟨hm.defers, hm.size, fun t v hv => ?_⟩ hm.hp
    rw [← hm.reg.look t v hv]
    by_cases hx : ∃ (j : Nat) (o : Oper), l[j]? = some o ∧ o.dst = some t
    · obtain ⟨j, o, hj, hd⟩ := hx
      exact hm.done j o t hj hd (hall j (List.getElem?_eq_some_iff.1 hj).1)
    · have hx' : ∀ (j : Nat) (o : Oper), l[j]? = some o → o.dst ≠ some t := fun j o hj hd => hx ⟨j, o, hj, hd⟩
      rw [hm.rest t (fun j o hj hd => absurd hd (hx' j o hj)), hm.srest t (fun j o hj hd => absurd hd (hx' j o hj))]
  have hcount : ∀ (listed : Array Bool) (i fuel : Nat), listed.size = l.length → i < l.length → listed.getD i true = false → ((List.range l.length).filter fun i => !listed.getD i true).length ≤ fuel + 1 →
      ((List.range l.length).filter fun j => !(listed.setIfInBounds i true).getD j true).length ≤ fuel := by
    intro listed i fuel hsz hil hun hc
    have hils : i < listed.size := by omega
    have := count_lt (fun i => !listed.getD i true) (fun j => !(listed.setIfInBounds i true).getD j true) (List.range l.length) (fun x _ hx2 => by
      rw [getD_setT hils] at hx2
      by_cases e : i = x
      · rw [if_pos e] at hx2; cases hx2
      · rwa [if_neg e] at hx2) i (List.mem_range.2 hil) (by rw [hun]; rfl) (by rw [getD_setT hils, if_pos rfl]; rfl)
    omega
  intro fuel
  induction fuel with
  | zero =>
    intro n
    induction n with
    | zero =>
      intro his pend L O S listed a w as hpl hm hc
      have hall := hnone listed hm.sz hc
      exact ⟨hnoready listed hm.sz hall, hend his pend L O S listed a w as hpl.2 hm hall⟩
    | succ n ihn =>
      intro his pend L O S listed a w as hpl hm hc
      rcases hpl with ⟨i, o, d, v, hi, hd, hdN, hnew, hsee, hs, hpl⟩ | ⟨⟨i, hil, hnew⟩, _⟩
      · exact ihn _ _ _ _ _ _ _ _ _ hpl (hm.plan hok hi hd hdN hnew hsee hs) hc
      · exact absurd (hm.sub i (hnone listed hm.sz hc i hil)) hnew
  | succ fuel ih =>
    intro n
    -- a planned one comes up
    have hexec : ∀ (n : Nat) (his : List Nat) (pend : List Pend) (L : Regs) (O S : List Fact) (listed : Array Bool) (a : Act) (w : World) (as : Act), Plan C l Q n his pend L O S → Rt C l a0 his pend L O S listed a w as →
        ((List.range l.length).filter fun i => !listed.getD i true).length ≤ fuel + 1 → ∀ i ∈ Region.ready .any l.toArray listed, i ∈ his →
        wpOpIn (FR C.ro) 0 C.P l.toArray Q i (wpAnyIn (FR C.ro) 0 C.P .any l.toArray Q fuel (listed.setIfInBounds i true)) a w := by
      intro n his pend L O S listed a w as hpl hm hc i hi hin
      obtain ⟨hun, o, ho, hpre⟩ := mem_ready.1 hi
      have hoi : l[i]? = some o := by simpa using ho
      have hil : i < l.length := (List.getElem?_eq_some_iff.1 hoi).1
      exact hm.exec hok hoi (by rw [← hget hm.sz i hil]; exact hun) hpre hin fun a' w' hm' => ih n _ _ _ _ _ _ _ _ _ hpl hm' (hcount listed i fuel hm.sz hil hun hc)
    induction n with
    | zero =>
      intro his pend L O S listed a w as hpl hm hc
      refine ⟨fun hr => hend his pend L O S listed a w as hpl.2 hm (hready listed hm.sz hr), fun i hi => ?_⟩
      obtain ⟨hun, o, ho, hpre⟩ := mem_ready.1 hi
      have hoi : l[i]? = some o := by simpa using ho
      exact hexec 0 his pend L O S listed a w as hpl hm hc i hi (hpl.1 i (List.getElem?_eq_some_iff.1 hoi).1)
    | succ n ihn =>
      intro his pend L O S listed a w as hpl hm hc
      have hpl0 := hpl
      rcases hpl with ⟨i, o, d, v, hi, hd, hdN, hnew, hsee, hs, hpl⟩ | ⟨⟨i0, hil0, hnew0⟩, hfire⟩
      · exact ihn _ _ _ _ _ _ _ _ _ hpl (hm.plan hok hi hd hdN hnew hsee hs) hc
      · refine ⟨fun hr => absurd (hm.sub i0 (hready listed hm.sz hr i0 hil0)) hnew0, fun i hi => ?_⟩
        by_cases hin : i ∈ his
        · exact hexec (n + 1) his pend L O S listed a w as hpl0 hm hc i hi hin
        · obtain ⟨hun, o, ho, hpre⟩ := mem_ready.1 hi
          have hoi : l[i]? = some o := by simpa using ho
          have hil : i < l.length := (List.getElem?_eq_some_iff.1 hoi).1
          have hopen : i ∈ openAt l his := by
            refine List.mem_filter.2 ⟨List.mem_range.2 hil, ?_⟩
            simp only [ho, Option.any_some, Bool.and_eq_true, Bool.not_eq_true', List.contains_eq_mem, decide_eq_false_iff_not]
            refine ⟨hin, Array.all_eq_true'.2 fun e he => ?_⟩
            cases hb : Region.binds .any e
            · rfl
            · simpa using hm.sub e.on (hpre e he hb)
          obtain ⟨o', ho', hg, hdN, hsee, hwp⟩ := hfire i hopen
          rw [hoi] at ho'; injection ho' with ho'; subst ho'
          have hunf : listed.getD i false = false := by rw [← hget hm.sz i hil]; exact hun
          have hag := exec_same (planOk_sel hok hoi).1 (hm.agree hok hunf hpre hsee (fun _ _ _ _ _ _ => rfl) hm.srest)
          unfold wpOpIn
          rw [ho]
          show (if _ then _ else _)
          rw [if_pos (by simp [Region.wanted, hg])]
          have hwp := hwp as w hm.reg hm.hp
          unfold wpListIn at hwp
          rw [if_pos (by simp [Region.wanted, hg])] at hwp
          refine wpIn_transfer hag.1 (planOk_sel hok hoi).2 (fun b w' hb => ?_) (fun u w' hb => ?_) hwp
          · obtain ⟨L', O', S', hr, _⟩ := hb
            rw [hr.defers, hm.reg.defers]
          · obtain ⟨L', O', S', hr, hp', hl, hpl'⟩ := hb
            exact ih n _ _ _ _ _ _ _ _ _ hpl' (hm.fire hok hoi hdN hin hpre hr hp' hl) (hcount listed i fuel hm.sz hil hun hc)

/-- THE RULE. -/
theorem cj_plan {id : Nat} (n : Nat) (hm : C.P.follows .mixedOrders = true) (hok : planOk l = true) (h : Plan C l Q n [] [] L O S) : CJ C (.region id l.toArray true) Q L O S := by
  intro a w hr hp
  refine wpIn_region_any hm ?_
  have hfil : ((List.range l.length).filter fun i => !(Array.replicate l.toArray.size false).getD i true).length ≤ l.toArray.size := by
    have := List.length_filter_le (fun i => !(Array.replicate l.toArray.size false).getD i true) (List.range l.length)
    simpa using this
  have hno : ∀ j, (Array.replicate l.toArray.size false).getD j false = false := fun j => by
    simp only [Array.getD_eq_getD_getElem?, Array.getElem?_replicate]
    split <;> rfl
  refine plan_any hok _ n [] [] L O S _ a _ a h ⟨by simp, hr.defers, hr.size, hp.grow ⟨rfl, rfl, rfl, Nat.le_refl _, fun _ _ => rfl⟩, fun j o hj hl => ?_, hr, fun j hl => ?_, fun _ _ _ _ _ _ => rfl, fun _ _ => rfl, fun _ _ => rfl, fun j hj => by cases hj⟩ hfil
  · rw [hno] at hl; cases hl
  · rw [hno] at hl; cases hl
end
end Go.Sx
