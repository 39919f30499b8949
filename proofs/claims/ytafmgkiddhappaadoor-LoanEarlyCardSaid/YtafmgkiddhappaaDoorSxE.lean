/- A region that draws its order, all of whose operations yield one value each whatever else has been done: one walk in the order of the text serves every order. Conditions: none; a library of lemmas. -/
import Derived.Test.YtafmgkiddhappaaDoorSxD
namespace Go.Sx
open Go.RowKit

/-- The check by reckoning: each temporary is written once; whoever looks at one that is written here stands in order with its writer; edges lead back. -/
def waits (o : Oper) (j : Nat) : Bool := o.after.any fun e => Region.binds .any e && e.on == j
def looksO (ops : Array Oper) (o : Oper) : List Tmp :=
  (o.op.operands.toList.filterMap fun | .tmp t => some t | _ => none) ++
  (match o.guard with
   | some (g, _) => ((ops[g]?).bind (·.dst)).toList
   | none => [])
def isSelect : Op → Bool
  | .select .. => true
  | _ => false
def orderOkAt (ops : Array Oper) (n i : Nat) (o : Oper) : Bool :=
  !isSelect o.op && (o.after.all fun e => !Region.binds .any e || Nat.blt e.on i) &&
  (List.range n).all fun j => match (ops[j]?).bind (·.dst) with
    | none => false
    | some d => (!(o.dst == some d) || Nat.beq i j) && (!((looksO ops o).contains d) || (if Nat.blt j i then waits o j else if Nat.blt i j then (ops[j]?).any (waits · i) else false))
def orderOk (l : List Oper) : Bool := (l.zipIdx).all fun p => orderOkAt l.toArray l.length p.2 p.1

theorem orderOk_at {l : List Oper} (h : orderOk l = true) {i : Nat} {o : Oper} (hi : l[i]? = some o) : orderOkAt l.toArray l.length i o = true := by
  have := List.all_eq_true.1 h (o, i) (by rw [List.mem_zipIdx_iff_getElem?]; exact hi)
  exact this

section
variable {C : Cx} {O S : List Fact} {ops : Array Oper}

/-- What the i-th operation yields, given what the ones before it have yielded. -/
def Steps1 (C : Cx) (ops : Array Oper) (O S : List Fact) (o : Oper) (L : Regs) (v : Value) : Prop :=
  ∀ a w, RegsOk C.N C.D L a → Hp C.F C.w0 O S w → (Region.wanted o (yielded ops a.tmps) = true ∧ (∀ c, o.op ≠ .defer c) ∧ YieldsV C o a w v) ∨ (Region.wanted o (yielded ops a.tmps) = false ∧ v = undef)

def regsAfter : List Oper → List Value → Regs → Regs
  | o :: l, v :: vs, L => regsAfter l vs (match o.dst with | some d => (d, v) :: L | none => L)
  | _, _, L => L

theorem gj_values {K : Regs → Prop} : ∀ (l : List Oper) (L : Regs), GJ C ops O S l L K → ∃ vs : List Value, vs.length = l.length ∧ (∀ i o, l[i]? = some o → ∃ v d, vs[i]? = some v ∧ o.dst = some d ∧ d < C.N ∧ Steps1 C ops O S o (regsAfter (l.take i) (vs.take i) L) v) ∧ K (regsAfter l vs L)
  | [], L, h => ⟨[], rfl, fun i o h => by simp at h, h⟩
  | o :: l, L, ⟨v, d, hd, hdN, hs, hk⟩ => by
    obtain ⟨vs, h1, h2, h3⟩ := gj_values l _ hk
    refine ⟨v :: vs, by simp [h1], fun i o' hi => ?_, ?_⟩
    · cases i with
      | zero =>
        simp at hi; subst hi
        exact ⟨v, d, rfl, hd, by simpa [Nat.blt_eq] using hdN, hs⟩
      | succ i =>
        obtain ⟨v', d', h4, h5, h6, h7⟩ := h2 i o' (by simpa using hi)
        refine ⟨v', d', by simpa using h4, h5, h6, ?_⟩
        simpa [regsAfter, hd] using h7
    · simpa [regsAfter, hd] using h3

/-- The act after the first i operations of the text. -/
def actAfter : List Oper → List Value → Act → Act
  | o :: l, v :: vs, a => actAfter l vs (a.put o.dst v)
  | _, _, a => a

theorem actAfter_ok {N : Nat} {D : List Deferred} : ∀ (l : List Oper) (vs : List Value) (L : Regs) (a : Act), (∀ o ∈ l, ∃ d, o.dst = some d ∧ d < N) → RegsOk N D L a → RegsOk N D (regsAfter l vs L) (actAfter l vs a)
  | [], vs, L, a, _, h => by simpa [regsAfter, actAfter] using h
  | o :: l, [], L, a, _, h => by simpa [regsAfter, actAfter] using h
  | o :: l, v :: vs, L, a, hd, h => by
    obtain ⟨d, h1, h2⟩ := hd o (by simp)
    simp only [regsAfter, actAfter, h1]
    exact actAfter_ok l vs _ _ (fun o' ho' => hd o' (by simp [ho'])) (h.put h2 v)

theorem actAfter_size : ∀ (l : List Oper) (vs : List Value) (a : Act), (actAfter l vs a).tmps.size = a.tmps.size
  | [], vs, a => by simp [actAfter]
  | o :: l, [], a => by simp [actAfter]
  | o :: l, v :: vs, a => by
    simp only [actAfter]
    rw [actAfter_size l vs]
    cases o.dst <;> simp [Act.put]

theorem actAfter_not : ∀ (l : List Oper) (vs : List Value) (a : Act) (t : Nat), (∀ o ∈ l, o.dst ≠ some t) → (actAfter l vs a).tmps[t]? = a.tmps[t]?
  | [], vs, a, t, _ => by simp [actAfter]
  | o :: l, [], a, t, _ => by simp [actAfter]
  | o :: l, v :: vs, a, t, h => by
    simp only [actAfter]
    rw [actAfter_not l vs _ t (fun o' ho' => h o' (by simp [ho']))]
    have := h o (by simp)
    cases hd : o.dst with
    | none => simp [Act.put]
    | some d =>
      simp only [Act.put, Array.getElem?_setIfInBounds]
      rw [if_neg]
      intro e; subst e; exact this hd

theorem actAfter_get : ∀ (l : List Oper) (vs : List Value) (a : Act) (i : Nat) (o : Oper) (v : Value) (d : Nat), l[i]? = some o → vs[i]? = some v → o.dst = some d → d < a.tmps.size → (∀ j o', l[j]? = some o' → o'.dst = some d → j = i) → (actAfter l vs a).tmps[d]? = some v
  | [], vs, a, i, o, v, d, h, _, _, _, _ => by simp at h
  | o0 :: l, [], a, i, o, v, d, _, h, _, _, _ => by simp at h
  | o0 :: l, v0 :: vs, a, 0, o, v, d, h, hv, hd, hs, hu => by
    simp at h hv; subst h hv
    simp only [actAfter]
    rw [actAfter_not l vs _ d (fun o' ho' hd' => by
      obtain ⟨j, hj⟩ := List.getElem?_of_mem ho'
      have := hu (j + 1) o' (by simpa using hj) hd'
      omega)]
    simp [Act.put, hd, hs]
  | o0 :: l, v0 :: vs, a, i + 1, o, v, d, h, hv, hd, hs, hu => by
    simp only [actAfter]
    refine actAfter_get l vs _ i o v d (by simpa using h) (by simpa using hv) hd ?_ (fun j o' hj hd' => ?_)
    · cases o0.dst <;> simp [Act.put, hs]
    · have := hu (j + 1) o' (by simpa using hj) hd'; omega

theorem count_lt (p p' : Nat → Bool) : ∀ (l : List Nat), (∀ x ∈ l, p' x = true → p x = true) → ∀ i ∈ l, p i = true → p' i = false → (l.filter p').length < (l.filter p).length
  | [], _, i, hi, _, _ => by simp at hi
  | x :: l, h, i, hi, hp, hp' => by
    have hle : ∀ (l : List Nat), (∀ x ∈ l, p' x = true → p x = true) → (l.filter p').length ≤ (l.filter p).length := by
      intro l
      induction l with
      | nil => intro _; simp
      | cons y l ih =>
        intro h
        have := ih (fun z hz => h z (by simp [hz]))
        by_cases hy : p' y = true
        · have := h y (by simp) hy
          simp [hy, this]; omega
        · by_cases hy2 : p y = true
          · simp [hy, hy2]; omega
          · simp [hy, hy2]; omega
    rcases List.mem_cons.1 hi with e | hi
    · subst e
      have := hle l (fun z hz => h z (by simp [hz]))
      simp [hp, hp']; omega
    · have ih := count_lt p p' l (fun z hz => h z (by simp [hz])) i hi hp hp'
      by_cases hx : p' x = true
      · have := h x (by simp) hx
        simp [hx, this]; omega
      · by_cases hx2 : p x = true
        · simp [hx, hx2]; omega
        · simp [hx, hx2]; omega

/-- While the region is on its way, in whatever order. -/
structure Mid (C : Cx) (l : List Oper) (vs : List Value) (O S : List Fact) (a0 : Act) (listed : Array Bool) (a : Act) (w : World) : Prop where
  sz : listed.size = l.length
  defers : a.defers = C.D
  size : a.tmps.size = C.N
  hp : Hp C.F C.w0 O S w
  closed : ∀ (j : Nat) (o : Oper), l[j]? = some o → listed.getD j false = true → ∀ e ∈ o.after, Region.binds .any e = true → listed.getD e.on false = true
  done : ∀ (j : Nat) (o : Oper) (d : Nat) (v : Value), l[j]? = some o → vs[j]? = some v → o.dst = some d → listed.getD j false = true → a.tmps[d]? = some v
  rest : ∀ t : Nat, (∀ (j : Nat) (o : Oper), l[j]? = some o → o.dst = some t → listed.getD j false = false) → a.tmps[t]? = a0.tmps[t]?

theorem getD_set {listed : Array Bool} {i j : Nat} (hi : i < listed.size) : (listed.setIfInBounds i true).getD j false = if i = j then true else listed.getD j false := by
  simp only [Array.getD_eq_getD_getElem?, Array.getElem?_setIfInBounds]
  by_cases h : i = j
  · subst h; simp [hi]
  · simp [h]

theorem getD_setT {listed : Array Bool} {i j : Nat} (hi : i < listed.size) : (listed.setIfInBounds i true).getD j true = if i = j then true else listed.getD j true := by
  simp only [Array.getD_eq_getD_getElem?, Array.getElem?_setIfInBounds]
  by_cases h : i = j
  · subst h; simp [hi]
  · simp [h]

theorem draw_any {l : List Oper} {vs : List Value} {L : Regs} {Q : Exit → Act → World → Prop} {a0 : Act} (hok : orderOk l = true) (h0 : RegsOk C.N C.D L a0)
    (hst : ∀ i o, l[i]? = some o → ∃ v d, vs[i]? = some v ∧ o.dst = some d ∧ d < C.N ∧ Steps1 C l.toArray O S o (regsAfter (l.take i) (vs.take i) L) v)
    (hK : ∀ a w, RegsOk C.N C.D (regsAfter l vs L) a → Hp C.F C.w0 O S w → Q .normal a w) :
    ∀ (fuel : Nat) (listed : Array Bool) (a : Act) (w : World), ((List.range l.length).filter fun i => !listed.getD i true).length ≤ fuel → Mid C l vs O S a0 listed a w → wpAnyIn (FR C.ro) 0 C.P .any l.toArray Q fuel listed a w := by
  have hdist : ∀ (i j : Nat) (o o' : Oper) (d : Nat), l[i]? = some o → l[j]? = some o' → o.dst = some d → o'.dst = some d → i = j := by
    intro i j o o' d hi hj hd hd'
    have := orderOk_at hok hi
    simp only [orderOkAt, Bool.and_eq_true] at this
    have hjl : j < l.length := (List.getElem?_eq_some_iff.1 hj).1
    have h2 := List.all_eq_true.1 this.2 j (List.mem_range.2 hjl)
    have hb : (l.toArray[j]?).bind (·.dst) = some d := by simp [hj, hd']
    simp only [hb, Bool.and_eq_true] at h2
    have h3 := h2.1
    simp only [hd, beq_self_eq_true, Bool.not_true, Bool.false_or] at h3
    exact Nat.eq_of_beq_eq_true h3
  have hget : ∀ {listed : Array Bool}, listed.size = l.length → ∀ i, i < l.length → listed.getD i true = listed.getD i false := by
    intro listed hsz i hi
    simp [Array.getD_eq_getD_getElem?, Array.getElem?_eq_getElem (show i < listed.size by omega)]
  -- when nothing is left
  have hend : ∀ (listed : Array Bool) (a : Act) (w : World), Mid C l vs O S a0 listed a w → (∀ i, i < l.length → listed.getD i false = true) → Q .normal a w := by
    intro listed a w hm hall
    refine hK a w ⟨hm.defers, hm.size, fun t v hv => ?_⟩ hm.hp
    have hA := actAfter_ok l vs L a0 (fun o ho => by
      obtain ⟨i, hi⟩ := List.getElem?_of_mem ho
      obtain ⟨_, d, _, hd, hdN, _⟩ := hst i o hi
      exact ⟨d, hd, hdN⟩) h0
    have h1 := hA.look t v hv
    rw [← h1]
    by_cases hx : ∃ (j : Nat) (o : Oper), l[j]? = some o ∧ o.dst = some t
    · obtain ⟨j, o, hj, hd⟩ := hx
      obtain ⟨u, d, hu, hd', hdN, _⟩ := hst j o hj
      rw [hd] at hd'; injection hd' with hd'; subst hd'
      rw [hm.done j o t u hj hu hd (hall j (List.getElem?_eq_some_iff.1 hj).1)]
      exact (actAfter_get l vs a0 j o u t hj hu hd (by rw [h0.size]; exact hdN) (fun j' o' hj' hd' => hdist j' j o' o t hj' hj hd' hd)).symm
    · have hx' : ∀ (j : Nat) (o : Oper), l[j]? = some o → o.dst ≠ some t := fun j o hj hd => hx ⟨j, o, hj, hd⟩
      rw [hm.rest t (fun j o hj hd => absurd hd (hx' j o hj)), actAfter_not l vs a0 t (fun o ho => by
        obtain ⟨j, hj⟩ := List.getElem?_of_mem ho
        exact hx' j o hj)]
  -- if some are left, one may come up
  have hready : ∀ (listed : Array Bool), listed.size = l.length → Region.ready .any l.toArray listed = [] → ∀ i, i < l.length → listed.getD i false = true := by
    intro listed hsz hr i
    induction i using Nat.strongRecOn with
    | _ i ih =>
      intro hi
      rcases hb : listed.getD i false with _ | _
      · exfalso
        have hmem : i ∈ Region.ready .any l.toArray listed := by
          refine mem_ready.2 ⟨by rw [hget hsz i hi]; exact hb, l[i], by simp [hi], fun e he hbd => ?_⟩
          have := orderOk_at hok (List.getElem?_eq_getElem hi)
          simp only [orderOkAt, Bool.and_eq_true] at this
          have h2 := Array.all_eq_true'.1 this.1.2 e he
          simp only [hbd, Bool.not_true, Bool.false_or] at h2
          have h3 : e.on < i := by simpa [Nat.blt_eq] using h2
          exact ih e.on h3 (by omega)
        rw [hr] at hmem; cases hmem
      · rfl
  intro fuel
  induction fuel with
  | zero =>
    intro listed a w hc hm
    have hnone : ∀ i, i < l.length → listed.getD i false = true := by
      intro i hi
      rcases hb : listed.getD i false with _ | _
      · exfalso
        have : i ∈ (List.range l.length).filter fun i => !listed.getD i true := by
          simp [List.mem_filter, hi]
          have := hget hm.sz i hi
          rw [hb] at this
          simpa [Array.getD_eq_getD_getElem?] using this
        have h2 := List.length_pos_of_mem this
        omega
      · rfl
    refine ⟨?_, hend listed a w hm hnone⟩
    rcases hr : Region.ready .any l.toArray listed with _ | ⟨x, xs⟩
    · rfl
    · exfalso
      have hx : x ∈ Region.ready .any l.toArray listed := by rw [hr]; simp
      obtain ⟨h1, o, ho, _⟩ := mem_ready.1 hx
      have hxl : x < l.length := by
        have : l[x]? = some o := by simpa using ho
        exact (List.getElem?_eq_some_iff.1 this).1
      rw [hget hm.sz x hxl, hnone x hxl] at h1
      cases h1
  | succ fuel ih =>
    intro listed a w hc hm
    refine ⟨fun hr => hend listed a w hm (hready listed hm.sz hr), fun i hi => ?_⟩
    obtain ⟨hun, o, ho, hpre⟩ := mem_ready.1 hi
    have hoi : l[i]? = some o := by simpa using ho
    have hil : i < l.length := (List.getElem?_eq_some_iff.1 hoi).1
    have hunf : listed.getD i false = false := by rw [← hget hm.sz i hil]; exact hun
    obtain ⟨v, d, hv, hd, hdN, hs1⟩ := hst i o hoi
    have hoO := orderOk_at hok hoi
    simp only [orderOkAt, Bool.and_eq_true] at hoO
    -- the act of the text's order agrees on all that the operation looks at
    have hagree : ∀ t ∈ looksO l.toArray o, a.tmps[t]? = (actAfter (l.take i) (vs.take i) a0).tmps[t]? := by
      intro t ht
      by_cases hx : ∃ (j : Nat) (o' : Oper), l[j]? = some o' ∧ o'.dst = some t
      · obtain ⟨j, o', hj, hd'⟩ := hx
        have hjl : j < l.length := (List.getElem?_eq_some_iff.1 hj).1
        have h2 := List.all_eq_true.1 hoO.2 j (List.mem_range.2 hjl)
        have hb : (l.toArray[j]?).bind (·.dst) = some t := by simp [hj, hd']
        simp only [hb, Bool.and_eq_true] at h2
        have h3 := h2.2
        rw [List.contains_iff_mem.2 ht] at h3
        simp only [Bool.not_true, Bool.false_or] at h3
        by_cases hji : j < i
        · rw [if_pos (by simpa [Nat.blt_eq] using hji)] at h3
          obtain ⟨e, he, hbe⟩ := Array.any_eq_true'.1 h3
          simp only [Bool.and_eq_true, beq_iff_eq] at hbe
          have hjlisted : listed.getD j false = true := by rw [← hbe.2]; exact hpre e he hbe.1
          obtain ⟨u, d', hu, hd2, hdN', _⟩ := hst j o' hj
          rw [hd'] at hd2; injection hd2 with hd2; subst hd2
          rw [hm.done j o' t u hj hu hd' hjlisted]
          refine (actAfter_get (l.take i) (vs.take i) a0 j o' u t ?_ ?_ hd' (by rw [h0.size]; exact hdN') (fun j' o'' hj' hd'' => ?_)).symm
          · rw [List.getElem?_take_of_lt hji]; exact hj
          · rw [List.getElem?_take_of_lt hji]; exact hu
          · have hj'l : l[j']? = some o'' := by
              have hlt : j' < i := by
                have := (List.getElem?_eq_some_iff.1 hj').1
                simp at this; omega
              rwa [List.getElem?_take_of_lt hlt] at hj'
            exact hdist j' j o'' o' t hj'l hj hd'' hd'
        · rw [if_neg (by simpa [Nat.blt_eq] using hji)] at h3
          by_cases hij : i < j
          · rw [if_pos (by simpa [Nat.blt_eq] using hij)] at h3
            have h4 : waits o' i = true := by
              have : l.toArray[j]? = some o' := by simpa using hj
              rw [this] at h3; simpa using h3
            obtain ⟨e, he, hbe⟩ := Array.any_eq_true'.1 h4
            simp only [Bool.and_eq_true, beq_iff_eq] at hbe
            have hjun : listed.getD j false = false := by
              rcases hb2 : listed.getD j false with _ | _
              · rfl
              · have := hm.closed j o' hj hb2 e he hbe.1
                rw [hbe.2, hunf] at this; cases this
            rw [hm.rest t (fun j' o'' hj' hd'' => by rw [hdist j' j o'' o' t hj' hj hd'' hd']; exact hjun), actAfter_not]
            intro o'' ho'' hd''
            obtain ⟨j', hj'⟩ := List.getElem?_of_mem ho''
            have hlt : j' < i := by
              have := (List.getElem?_eq_some_iff.1 hj').1
              simp at this; omega
            rw [List.getElem?_take_of_lt hlt] at hj'
            have := hdist j' j o'' o' t hj' hj hd'' hd'
            omega
          · rw [if_neg (by simpa [Nat.blt_eq] using hij)] at h3; cases h3
      · have hx' : ∀ (j : Nat) (o : Oper), l[j]? = some o → o.dst ≠ some t := fun j o hj hd => hx ⟨j, o, hj, hd⟩
        rw [hm.rest t (fun j o hj hd => absurd hd (hx' j o hj)), actAfter_not]
        intro o'' ho'' hd''
        obtain ⟨j', hj'⟩ := List.getElem?_of_mem ho''
        have hlt : j' < i := by
          have := (List.getElem?_eq_some_iff.1 hj').1
          simp at this; omega
        rw [List.getElem?_take_of_lt hlt] at hj'
        exact hx' j' o'' hj' hd''
    have hev : ∀ x ∈ o.op.operands, a.eval x = (actAfter (l.take i) (vs.take i) a0).eval x := by
      intro x hx
      cases x with
      | tmp t =>
        have := hagree t (List.mem_append_left _ (List.mem_filterMap.2 ⟨.tmp t, by simpa using hx, rfl⟩))
        simp [Act.eval, Array.getD_eq_getD_getElem?, this]
      | const v => rfl
      | global g => rfl
      | func f => rfl
    have hex : execOp a.eval o = execOp (actAfter (l.take i) (vs.take i) a0).eval o := execOp_congr o (fun cs b e => by
      have := hoO.1.1
      simp [e, isSelect] at this) hev
    have hwant : Region.wanted o (yielded l.toArray a.tmps) = Region.wanted o (yielded l.toArray (actAfter (l.take i) (vs.take i) a0).tmps) := by
      unfold Region.wanted
      cases hg : o.guard with
      | none => rfl
      | some jb =>
        obtain ⟨j, b⟩ := jb
        have : yielded l.toArray a.tmps j = yielded l.toArray (actAfter (l.take i) (vs.take i) a0).tmps j := by
          unfold yielded
          cases hb : (l.toArray[j]?).bind (·.dst) with
          | none => rfl
          | some t =>
            have := hagree t (List.mem_append_right _ (by rw [hg]; simp only [hb]; simp))
            simp only [Option.bind_some, this]
        simp only [this]
    have hA := actAfter_ok (l.take i) (vs.take i) L a0 (fun o' ho' => by
      obtain ⟨j, hj⟩ := List.getElem?_of_mem (List.mem_of_mem_take ho')
      obtain ⟨_, d, _, hd, hdN, _⟩ := hst j o' hj
      exact ⟨d, hd, hdN⟩) h0
    have hnext : ∀ w', Grow w w' → wpAnyIn (FR C.ro) 0 C.P .any l.toArray Q fuel (listed.setIfInBounds i true) (a.put o.dst v) w' := by
      intro w' hg
      have hils : i < listed.size := by rw [hm.sz]; exact hil
      refine ih _ _ _ ?_ ?_
      · have := count_lt (fun i => !listed.getD i true) (fun j => !(listed.setIfInBounds i true).getD j true) (List.range l.length) (fun x _ hx2 => by
          rw [getD_setT hils] at hx2
          by_cases e : i = x
          · rw [if_pos e] at hx2; cases hx2
          · rwa [if_neg e] at hx2) i (List.mem_range.2 hil) (by rw [hun]; rfl) (by rw [getD_setT hils, if_pos rfl]; rfl)
        omega
      · refine ⟨by simp [hm.sz], ?_, ?_, hm.hp.grow hg, fun j o' hj hl e he hbe => ?_, fun j o' d' v' hj hv' hd' hl => ?_, fun t ht => ?_⟩
        · rw [hd]; exact hm.defers
        · rw [hd]; simp [Act.put, hm.size]
        · rw [getD_set hils] at hl ⊢
          by_cases h2 : i = e.on
          · rw [if_pos h2]
          · rw [if_neg h2]
            by_cases h1 : i = j
            · subst h1
              rw [hoi] at hj; injection hj with hj; subst hj
              exact hpre e he hbe
            · rw [if_neg h1] at hl
              exact hm.closed j o' hj hl e he hbe
        · rw [hd]
          simp only [Act.put, Array.getElem?_setIfInBounds]
          by_cases h1 : i = j
          · subst h1
            rw [hoi] at hj; injection hj with hj; subst hj
            rw [hd] at hd'; injection hd' with hd'; subst hd'
            rw [hv] at hv'; injection hv' with hv'; subst hv'
            simp [hm.size, hdN]
          · rw [getD_set hils, if_neg h1] at hl
            rw [if_neg (fun e => h1 (hdist i j o o' d' hoi hj (by rw [hd, e]) hd'))]
            exact hm.done j o' d' v' hj hv' hd' hl
        · have hne : d ≠ t := fun e => by
            have := ht i o hoi (by rw [hd, e])
            rw [getD_set hils, if_pos rfl] at this; cases this
          rw [hd]
          simp only [Act.put, Array.getElem?_setIfInBounds, if_neg hne]
          refine hm.rest t (fun j o' hj hd' => ?_)
          have := ht j o' hj hd'
          rw [getD_set hils] at this
          by_cases h1 : i = j
          · rw [if_pos h1] at this; cases this
          · rwa [if_neg h1] at this
    unfold wpOpIn
    rw [ho]
    show (if _ then _ else _)
    rcases hs1 _ w hA hm.hp with ⟨hw, hnd, hy⟩ | ⟨hw, rfl⟩
    · rw [hwant, if_pos hw]
      refine uponIn_of_yields hnd ?_ hnext
      unfold YieldsV at hy ⊢
      rw [hex]; exact hy
    · rw [hwant, if_neg (by rw [hw]; simp)]
      exact ⟨fun _ _ => trivial, hnext w (Below.refl _ _)⟩

/-- THE RULE. -/
theorem cj_draw {Q : Exit → Act → World → Prop} {L : Regs} {id : Nat} {l : List Oper} (hm : C.P.follows .mixedOrders = true) (hok : orderOk l = true) (h : GJ C l.toArray O S l L (fun L' => EJ C Q .normal L' O S)) : CJ C (.region id l.toArray true) Q L O S := by
  intro a w hr hp
  obtain ⟨vs, _, hst, hK⟩ := gj_values l L h
  refine wpIn_region_any hm ?_
  have hfil : ((List.range l.length).filter fun i => !(Array.replicate l.toArray.size false).getD i true).length ≤ l.toArray.size := by
    have := List.length_filter_le (fun i => !(Array.replicate l.toArray.size false).getD i true) (List.range l.length)
    simpa using this
  refine draw_any hok hr hst hK _ _ _ _ hfil ⟨by simp, hr.defers, hr.size, hp.grow ⟨rfl, rfl, rfl, Nat.le_refl _, fun _ _ => rfl⟩, fun j o hj hl => ?_, fun j o d v hj _ _ hl => ?_, fun _ _ => rfl⟩
  · exfalso
    simp only [Array.getD_eq_getD_getElem?, Array.getElem?_replicate] at hl
    split at hl <;> simp at hl
  · exfalso
    simp only [Array.getD_eq_getD_getElem?, Array.getElem?_replicate] at hl
    split at hl <;> simp at hl
end
end Go.Sx
