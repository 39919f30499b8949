/- Texts of ours, joined: 1 of them. Conditions: none. -/
import Derived.Test.YtppfniekcgnmjaaGreatZb
namespace Go.Proofs.YtppfniekcgnmjaaGreat.Au
open Go.Sx Go.RowKit Am

theorem not_t {b : Bool} (h : (!b) = true) : b = false := by cases b <;> simp_all
theorem not_f {b : Bool} (h : (!b) = false) : b = true := by cases b <;> simp_all
def seek : List Int → Int → Int → Int
  | [], _, _ => -1
  | x :: l, n, i => if x = n then i else seek l n (i + 1)
theorem seek_drop (l : List Int) (n : Int) (k : Nat) (x : Int) (h : l[k]? = some x) : seek (l.drop k) n k = if x = n then (k : Int) else seek (l.drop (k + 1)) n ((k + 1 : Nat) : Int) := by
  obtain ⟨h1, h2⟩ := List.getElem?_eq_some_iff.1 h
  rw [List.drop_eq_getElem_cons h1, h2, seek]; rfl
def btw (lo n hi : Int) : Bool := decide (lo ≤ n) && decide (n ≤ hi)
theorem all_drop {α : Type} (p : α → Bool) (l : List α) (k : Nat) (x : α) (h : l[k]? = some x) : (l.drop k).all p = (p x && (l.drop (k + 1)).all p) := by
  obtain ⟨h1, h2⟩ := List.getElem?_eq_some_iff.1 h
  rw [List.drop_eq_getElem_cons h1, h2, List.all_cons]
theorem btw_t {lo n hi : Int} : btw lo n hi = true ↔ lo ≤ n ∧ n ≤ hi := by unfold btw; rw [Bool.and_eq_true, decide_eq_true_iff, decide_eq_true_iff]
theorem btw_f {lo n hi : Int} : btw lo n hi = false ↔ ¬ (lo ≤ n ∧ n ≤ hi) := by rw [← btw_t]; simp

abbrev encRi (r : RiseV) : List Value := [.int .i64 r.fr, .int .i64 r.by_]
abbrev encBi (b : BidV) : List Value := [.int .i64 b.who, .int .i64 b.way, .int .i64 b.most]
/-! a lot -/
def stepOk (pr : Option Int) (r : RiseV) : Bool := btw 1 r.by_ 100000 && (match pr with | none => true | some q => btw (q + 1) r.fr 100000)
def ladG : Option Int → List RiseV → Bool
  | _, [] => true
  | pr, r :: l => stepOk pr r && ladG (some r.fr) l
def prevAt (lad : List RiseV) : Nat → Option Int
  | 0 => none
  | k + 1 => (lad[k]?).map (·.fr)
theorem ladG_drop (lad : List RiseV) (k : Nat) (r : RiseV) (h : lad[k]? = some r) : ladG (prevAt lad k) (lad.drop k) = (stepOk (prevAt lad k) r && ladG (prevAt lad (k + 1)) (lad.drop (k + 1))) := by
  obtain ⟨h1, h2⟩ := List.getElem?_eq_some_iff.1 h
  rw [List.drop_eq_getElem_cons h1, h2, ladG, prevAt, h]; rfl
def lotB (st rv : Int) (lad : List RiseV) : Bool := btw 1 st 100000 && btw 0 rv 100000 && btw 1 lad.length 8 && ((lad.getD 0 default).fr == 0) && ladG none lad
def lotE (st rv : Int) (lad : List RiseV) : Int := if lotB st rv lad = true then 0 else 60
def lotH (st rv : Int) (lad : List RiseV) : Bool := btw 1 st 100000 && btw 0 rv 100000 && btw 1 lad.length 8 && ((lad.getD 0 default).fr == 0)
theorem lotB_H (st rv : Int) (lad : List RiseV) : lotB st rv lad = (lotH st rv lad && ladG none lad) := rfl
theorem lotH_V (st rv : Int) (lad : List RiseV) : ((((!(decide (1 ≤ st) && decide (st ≤ 100000))) || !(decide (0 ≤ rv) && decide (rv ≤ 100000))) || !(decide ((1 : Int) ≤ lad.length) && decide ((lad.length : Int) ≤ 8))) || ((lad.getD (0 : Int).toNat default).fr != 0)) = !(lotH st rv lad) := by
  have e : ((lad.getD (0 : Int).toNat default).fr != 0) = !((lad.getD 0 default).fr == 0) := rfl
  rw [e, ← Bool.not_and, ← Bool.not_and, ← Bool.not_and]; rfl
theorem lotH_z {st rv : Int} {lad : List RiseV} (h : lotH st rv lad = true) : (1 ≤ lad.length ∧ lad.length ≤ 8) ∧ (lad.getD 0 default).fr = 0 := by
  unfold lotH at h
  simp only [Bool.and_eq_true, btw_t] at h
  exact ⟨by omega, by simpa using h.2⟩
theorem step_V (lad : List RiseV) (k : Nat) (r : RiseV) (hk : k ≤ lad.length) : ((!(decide (1 ≤ r.by_) && decide (r.by_ ≤ 100000))) || (decide (0 < (k : Int)) && !(decide ((lad.getD ((k : Int) - 1).toNat default).fr + 1 ≤ r.fr) && decide (r.fr ≤ 100000)))) = !(stepOk (prevAt lad k) r) := by
  unfold stepOk
  cases k with
  | zero => unfold btw; simp [prevAt]
  | succ k =>
    have e1 : (((k + 1 : Nat) : Int) - 1).toNat = k := by omega
    have e2 : decide ((0 : Int) < ((k + 1 : Nat) : Int)) = true := decide_eq_true (by omega)
    have e3 : prevAt lad (k + 1) = some (lad.getD k default).fr := by
      rw [prevAt, List.getD_eq_getElem?_getD, List.getElem?_eq_getElem (by omega)]; rfl
    rw [e1, e2, e3, Bool.true_and, ← Bool.not_and]; rfl
theorem step_fr {lad : List RiseV} {k : Nat} {r : RiseV} (hx : lad[k]? = some r) (h : stepOk (prevAt lad k) r = true) (hpv : ∀ j, j < k → 0 ≤ (lad.getD j default).fr ∧ (lad.getD j default).fr ≤ 100000) (hz : (lad.getD 0 default).fr = 0) : 0 ≤ r.fr ∧ r.fr ≤ 100000 := by
  have hr : lad.getD k default = r := by rw [List.getD_eq_getElem?_getD, hx]; rfl
  cases k with
  | zero => rw [hr] at hz; omega
  | succ k =>
    have hlt := (List.getElem?_eq_some_iff.1 hx).1
    have e3 : prevAt lad (k + 1) = some (lad.getD k default).fr := by
      rw [prevAt, List.getD_eq_getElem?_getD, List.getElem?_eq_getElem (by omega)]; rfl
    rw [e3] at h
    unfold stepOk at h
    have h1 := btw_t.1 (Bool.and_eq_true_iff.1 h).2
    have h2 := hpv k (by omega)
    omega
theorem getD_mem {α : Type} {l : List α} {k : Nat} {d : α} (h : k < l.length) : l.getD k d ∈ l := by
  rw [List.getD_eq_getElem?_getD, List.getElem?_eq_getElem h]; exact List.getElem_mem _
structure LotOk (st rv : Int) (lad : List RiseV) : Prop where
  st : 1 ≤ st ∧ st ≤ 100000
  rv : 0 ≤ rv ∧ rv ≤ 100000
  len : lad.length ≤ 8
  lad : LadOk lad
theorem ladG_inc : ∀ (lad : List RiseV) (pr : Option Int), ladG pr lad = true → (∀ r ∈ lad, 1 ≤ r.by_ ∧ r.by_ ≤ 100000) ∧ (∀ i, i + 1 < lad.length → (lad.getD i default).fr < (lad.getD (i + 1) default).fr)
  | [], _, _ => ⟨fun _ h => (by cases h), fun i h => (by simp at h)⟩
  | r :: l, pr, h => by
    rw [ladG, Bool.and_eq_true] at h
    obtain ⟨h1, h2⟩ := h
    obtain ⟨a, b⟩ := ladG_inc l _ h2
    have hb := btw_t.1 (Bool.and_eq_true_iff.1 h1).1
    refine ⟨fun q hq => ?_, fun i hi => ?_⟩
    · rcases List.mem_cons.1 hq with e | e
      · rw [e]; exact hb
      · exact a q e
    · cases i with
      | zero =>
        cases l with
        | nil => simp at hi
        | cons s l =>
          rw [ladG, Bool.and_eq_true] at h2
          have := btw_t.1 (Bool.and_eq_true_iff.1 h2.1).2
          show r.fr < s.fr
          omega
      | succ i => exact b i (by simpa using hi)
theorem lot_ok {st rv : Int} {lad : List RiseV} (h : lotB st rv lad = true) : LotOk st rv lad := by
  unfold lotB at h
  simp only [Bool.and_eq_true, btw_t] at h
  obtain ⟨⟨⟨⟨h1, h2⟩, h3⟩, h4⟩, h5⟩ := h
  obtain ⟨a, b⟩ := ladG_inc lad none h5
  exact ⟨h1, h2, by omega, ⟨by omega, by simpa using h4, b, a⟩⟩
theorem lotE_0 {st rv : Int} {lad : List RiseV} (h : (lotE st rv lad != 0) = false) : lotB st rv lad = true := by
  unfold lotE at h
  cases hb : lotB st rv lad with
  | true => rfl
  | false => rw [hb] at h; simp at h
theorem lotE_no {st rv : Int} {lad : List RiseV} (h : (lotE st rv lad != 0) = true) : lotB st rv lad = false := by
  unfold lotE at h
  cases hb : lotB st rv lad with
  | true => rw [hb] at h; simp at h
  | false => rfl
/-- the step from p at rung a of the ladder -/
theorem at_next {lad : List RiseV} (h : LadOk lad) {a : Nat} {p : Int} (h1 : a < lad.length) (h2 : (lad.getD a default).fr ≤ p) (h3 : ¬ (a + 1 < lad.length ∧ (lad.getD (a + 1) default).fr ≤ p)) : p + (lad.getD a default).by_ = nx lad p := by
  unfold nx
  rw [byR_at h ⟨h1, h2, fun h4 => by omega⟩]
theorem rg_get {lad : List RiseV} (h : LadOk lad) {st p : Int} {k : Nat} (h0 : 0 ≤ p) (hp : p ≤ 100000) (hd : (rgL lad st).drop k = rgL lad p) : (rgL lad st)[k]? = some p ∧ (rgL lad st).drop (k + 1) = rgL lad (nx lad p) := by
  rw [rgL_step h h0, if_pos hp] at hd
  refine ⟨?_, ?_⟩
  · have := congrArg (fun l => l[0]?) hd
    simpa using this
  · have := congrArg List.tail hd
    simpa using this
theorem rg_end {lad : List RiseV} (h : LadOk lad) {st p : Int} {k : Nat} (h0 : 0 ≤ p) (hp : ¬ p ≤ 100000) (hk : k ≤ (rgL lad st).length) (hd : (rgL lad st).drop k = rgL lad p) : k = (rgL lad st).length := by
  rw [rgL_step h h0, if_neg hp] at hd
  have := congrArg List.length hd
  simp at this
  omega
theorem rungF_drop (n out : Int) (rs : List Int) (k : Nat) (p : Int) (h : rs[k]? = some p) : rungF n (rs.drop k) out = if n < p then out else rungF n (rs.drop (k + 1)) p := by
  obtain ⟨h1, h2⟩ := List.getElem?_eq_some_iff.1 h
  rw [List.drop_eq_getElem_cons h1, h2, rungF]
theorem behF_drop (n : Int) (rs : List Int) (k : Nat) (p : Int) (h : rs[k]? = some p) : behF n (rs.drop k) = if n < p then p else behF n (rs.drop (k + 1)) := by
  obtain ⟨h1, h2⟩ := List.getElem?_eq_some_iff.1 h
  rw [List.drop_eq_getElem_cons h1, h2, behF]
def TB (J Jx : List Fact → Nat → World → Prop) (k : Nat) (b : Bool) (W : World) : Prop := if b = true then J [] k W else Jx [] k W
def rungR (st : Int) (lad : List RiseV) (n : Int) : Int := rungF n (rgL lad st) 0
/-- the least rung that a lot is sold at -/
def leastR (st rv : Int) (lad : List RiseV) : Int := behF (rv - 1) (rgL lad st)
end Go.Proofs.YtppfniekcgnmjaaGreat.Au
