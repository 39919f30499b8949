/- Texts of ours, joined: 34 of them. Conditions: none. -/
import Derived.Test.YtppfniekcgnmjaaGreatDoorXTopCutPay2
import Derived.Test.YtppfniekcgnmjaaGreatDoorProg
import Derived.Laws.StructEq
import Derived.WalkKit
namespace Go.Proofs.YtppfniekcgnmjaaGreatDoor.Va
open Go Go.Sx Go.RowKit Vm
theorem not_t {b : Bool} (h : (!b) = true) : b = false := by cases b <;> simp_all
theorem not_f {b : Bool} (h : (!b) = false) : b = true := by cases b <;> simp_all
theorem all_drop {α : Type} (q : α → Bool) (l : List α) (k : Nat) (x : α) (h : l[k]? = some x) : (l.drop k).all q = (q x && (l.drop (k + 1)).all q) := by
  rw [get_drop h, List.all_cons]
def fidx {α : Type} (q : α → Bool) : List α → Int → Int
  | [], _ => -1
  | x :: l, i => if q x = true then i else fidx q l (i + 1)
theorem fidx_drop {α : Type} (q : α → Bool) (l : List α) (k : Nat) (x : α) (h : l[k]? = some x) : fidx q (l.drop k) k = if q x = true then (k : Int) else fidx q (l.drop (k + 1)) ((k + 1 : Nat) : Int) := by
  rw [get_drop h, fidx]; rfl
theorem fidx_ge {α : Type} (q : α → Bool) : ∀ (l : List α) (i : Int), 0 ≤ i → decide (0 ≤ fidx q l i) = l.any q
  | [], i, _ => by simp [fidx]
  | x :: l, i, hi => by
    rw [fidx, List.any_cons]
    cases q x with
    | true => simp [hi]
    | false => rw [if_neg (by simp), fidx_ge q l (i + 1) (by omega), Bool.false_or]
theorem fidx_any {α : Type} (q : α → Bool) (l : List α) : decide (0 ≤ fidx q l 0) = l.any q := fidx_ge q l 0 (Int.le_refl _)
def seek : List Int → Int → Int → Int
  | [], _, _ => -1
  | x :: l, n, i => if x = n then i else seek l n (i + 1)
theorem seek_drop (l : List Int) (n : Int) (k : Nat) (x : Int) (h : l[k]? = some x) : seek (l.drop k) n k = if x = n then (k : Int) else seek (l.drop (k + 1)) n ((k + 1 : Nat) : Int) := by
  rw [get_drop h, seek]; rfl
theorem seek_has (l : List Int) (n : Int) : ∀ i : Int, 0 ≤ i → decide (0 ≤ seek l n i) = l.contains n := by
  induction l with
  | nil => intro i _; simp [seek]
  | cons x l ih =>
    intro i hi
    rw [seek, List.contains_cons]
    by_cases h : x = n
    · rw [if_pos h]; simp [h, hi]
    · rw [if_neg h, ih (i + 1) (by omega), beq_false_of_ne (Ne.symm h), Bool.false_or]
theorem has_V (a b : Nat) : (((b ^^^ (b &&& a) : Nat) : Int) == 0) = hasN a b := by
  rw [Bool.eq_iff_iff, beq_iff_eq, hasN_iff]
  have hb : ∀ i, (b ^^^ (b &&& a)).testBit i = (b.testBit i && !a.testBit i) := fun i => by
    rw [Nat.testBit_xor, Nat.testBit_and]; cases b.testBit i <;> cases a.testBit i <;> rfl
  constructor
  · intro h i hi
    have h0 : b ^^^ (b &&& a) = 0 := by omega
    have h1 := hb i
    rw [h0, hi, Nat.zero_testBit] at h1
    cases ha : a.testBit i with
    | true => rfl
    | false => rw [ha] at h1; cases h1
  · intro h
    have h0 : b ^^^ (b &&& a) = 0 := Nat.eq_of_testBit_eq fun i => by
      rw [hb, Nat.zero_testBit]
      cases hi : b.testBit i with
      | false => rfl
      | true => rw [h i hi]; rfl
    rw [h0]; rfl
/-! ### Memory -/
structure GateV where
  a : Int
  b : Int
  need : Int
  A : Option Addr
  c : Nat
  ways : List Int
abbrev GateV.n (g : GateV) : GateN := ⟨g.a, g.b, g.need, g.ways⟩
structure StrV where
  Ar : Option Addr
  cr : Nat
  rooms : List RoomV
  Ag : Option Addr
  cg : Nat
  gates : List GateV
  As : Option Addr
  cs : Nat
  staff : List Int
abbrev StrV.s (s : StrV) : Str := ⟨s.rooms, s.gates.map (·.n), s.staff⟩
abbrev encRo (r : RoomV) : List Value := [.int .i64 r.hold, .int .i64 r.climate, .int .i64 r.keys]
abbrev encGa (g : GateV) : List Value := [.int .i64 g.a, .int .i64 g.b, .int .i64 g.need, .slice g.A g.ways.length g.c]
structure StrRd (w : World) (s : StrV) : Prop where
  rooms : Rd w 3 encRo s.Ar s.rooms
  gates : Rd w 4 encGa s.Ag s.gates
  staff : Rd w 1 enInt s.As s.staff
  ways : ∀ g ∈ s.gates, Rd w 1 enInt g.A g.ways
theorem StrRd.mono {w w' : World} {s : StrV} (h : StrRd w s) (hg : Grow w w') : StrRd w' s :=
  ⟨h.rooms.mono hg, h.gates.mono hg, h.staff.mono hg, fun g k => (h.ways g k).mono hg⟩
theorem gates_len (s : StrV) : s.s.gates.length = s.gates.length := by simp
/-! what is asked of a strongroom -/
def gate1B (rooms : Nat) (g : GateV) : Bool := btw 0 g.a (rooms - 1) && btw 0 g.b (rooms - 1) && !(g.a == g.b) && btw 1 g.need 3 && btw 1 g.ways.length 3
theorem gate1_eq (rooms : Nat) (g : GateV) : gateB rooms g.n = (gate1B rooms g && g.ways.all fun n => btw 0 n 255) := rfl
structure StrOk (s : StrV) : Prop where
  nr : 1 ≤ s.rooms.length ∧ s.rooms.length ≤ 6
  ng : s.gates.length ≤ 10
  ns : 2 ≤ s.staff.length ∧ s.staff.length ≤ 6
  room : ∀ r ∈ s.rooms, (0 ≤ r.hold ∧ r.hold ≤ 16) ∧ (0 ≤ r.climate ∧ r.climate ≤ 3) ∧ (0 ≤ r.keys ∧ r.keys ≤ 255)
  staff : ∀ n ∈ s.staff, 0 ≤ n ∧ n ≤ 255
  gate : ∀ g ∈ s.gates, (0 ≤ g.a ∧ g.a < s.rooms.length) ∧ (0 ≤ g.b ∧ g.b < s.rooms.length) ∧ g.a ≠ g.b ∧ (1 ≤ g.need ∧ g.need ≤ 3) ∧ (1 ≤ g.ways.length ∧ g.ways.length ≤ 3) ∧ ∀ n ∈ g.ways, 0 ≤ n ∧ n ≤ 255
theorem StrOk.of {s : StrV} (h : strB s.s = true) : StrOk s := by
  have h0 := rooms_le h
  rw [gates_len] at h0
  unfold strB at h
  simp only [Bool.and_eq_true] at h
  obtain ⟨⟨⟨⟨⟨h1, h2⟩, h3⟩, h4⟩, h5⟩, h6⟩ := h
  refine ⟨⟨h0.1, h0.2.1⟩, h0.2.2.2.2, ⟨h0.2.2.1, h0.2.2.2.1⟩, fun r hr => ?_, fun n hn => ?_, fun g hg => ?_⟩
  · have := List.all_eq_true.1 h4 r hr
    unfold roomB at this
    simp only [Bool.and_eq_true, btw_t] at this
    exact ⟨this.1.1, this.1.2, this.2⟩
  · exact btw_t.1 (List.all_eq_true.1 h5 n hn)
  · have := List.all_eq_true.1 h6 g.n (List.mem_map.2 ⟨g, hg, rfl⟩)
    unfold gateB at this
    simp only [Bool.and_eq_true, btw_t, Bool.not_eq_true', beq_eq_false_iff_ne, List.all_eq_true] at this
    obtain ⟨⟨⟨⟨⟨g1, g2⟩, g3⟩, g4⟩, g5⟩, g6⟩ := this
    exact ⟨by omega, by omega, g3, g4, by omega, g6⟩
def str1B (s : StrV) : Bool := btw 1 s.rooms.length 6 && decide ((s.gates.length : Int) ≤ 10) && btw 2 s.staff.length 6
theorem str_parts (s : StrV) : strB s.s = (str1B s && s.rooms.all roomB && (s.staff.all fun n => btw 0 n 255) && s.gates.all fun g => gateB s.rooms.length g.n) := by
  unfold strB str1B
  rw [gates_len, List.all_map]; rfl
theorem str_no1 {s : StrV} (h : str1B s = false) : strE s.s = 40 := by unfold strE; rw [str_parts, h]; rfl
theorem str_noR {s : StrV} (h : s.rooms.all roomB = false) : strE s.s = 40 := by unfold strE; rw [str_parts, h]; simp
theorem str_noS {s : StrV} (h : (s.staff.all fun n => btw 0 n 255) = false) : strE s.s = 40 := by unfold strE; rw [str_parts, h]; simp
theorem str_noG {s : StrV} (h : (s.gates.all fun g => gateB s.rooms.length g.n) = false) : strE s.s = 40 := by unfold strE; rw [str_parts, h]; simp
theorem str_yes {s : StrV} (h1 : str1B s = true) (h2 : s.rooms.all roomB = true) (h3 : (s.staff.all fun n => btw 0 n 255) = true) (h4 : (s.gates.all fun g => gateB s.rooms.length g.n) = true) : strE s.s = 0 := by
  unfold strE; rw [str_parts, h1, h2, h3, h4]; rfl
theorem gate1_V (rooms : Nat) (g : GateV) : (!btw 0 g.a (rooms - 1) || !btw 0 g.b (rooms - 1) || g.a == g.b || !btw 1 g.need 3 || !btw 1 (g.ways.length) 3) = !(gate1B rooms g) := by
  unfold gate1B
  cases btw 0 g.a (rooms - 1) <;> cases btw 0 g.b (rooms - 1) <;> cases (g.a == g.b) <;> cases btw 1 g.need 3 <;> cases btw 1 (g.ways.length) 3 <;> rfl
theorem str1_V (s : StrV) : (!btw 1 (s.rooms.length) 6 || decide ((10 : Int) < s.gates.length) || !btw 2 (s.staff.length) 6) = !(str1B s) := by
  unfold str1B
  have e : decide ((s.gates.length : Int) ≤ 10) = !decide ((10 : Int) < s.gates.length) := by
    by_cases h : (10 : Int) < s.gates.length
    · rw [decide_eq_true h, decide_eq_false (by omega)]; rfl
    · rw [decide_eq_false h, decide_eq_true (by omega)]; rfl
  rw [e]
  cases btw 1 (s.rooms.length) 6 <;> cases decide ((10 : Int) < s.gates.length) <;> cases btw 2 (s.staff.length) 6 <;> rfl
theorem room_V (r : RoomV) : (!btw 0 r.hold 16 || !btw 0 r.climate 3 || !btw 0 r.keys (((2 ^ 8 : Nat) : Int) - 1)) = !(roomB r) := by
  unfold roomB
  show (!btw 0 r.hold 16 || !btw 0 r.climate 3 || !btw 0 r.keys 255) = _
  cases btw 0 r.hold 16 <;> cases btw 0 r.climate 3 <;> cases btw 0 r.keys 255 <;> rfl
theorem any_not {α : Type} (p : α → Bool) (l : List α) : (l.any fun x => !p x) = !(l.all p) := by
  induction l with
  | nil => rfl
  | cons x l ih => rw [List.any_cons, List.all_cons, ih, Bool.not_and]
/-! the rooms of a set -/
def insF (r : Nat) : Nat → Nat → List Nat
  | 0, _ => []
  | f + 1, k => if r.testBit k = true then k :: insF r f (k + 1) else insF r f (k + 1)
theorem keyF_ins (sel : Nat) (L : List Int) : ∀ (l : List Int) (i acc : Nat), L.drop i = l → keyF sel i l acc = (insF sel l.length i).foldl (fun a t => a ||| (L.getD t 0).toNat) acc
  | [], i, acc, _ => rfl
  | x :: l, i, acc, h => by
    have hx : L[i]? = some x := by
      have := congrArg (fun q : List Int => q[0]?) h
      simpa using this
    have hd : L.drop (i + 1) = l := by rw [← List.drop_drop, h]; rfl
    rw [keyF, List.length_cons, insF, keyF_ins sel L l (i + 1) _ hd]
    by_cases hs : sel.testBit i = true
    · rw [if_pos hs, if_pos hs, List.foldl_cons, List.getD_eq_getElem?_getD, hx]; rfl
    · rw [if_neg hs, if_neg hs]
theorem insF_mem (r : Nat) : ∀ (f k x : Nat), x ∈ insF r f k → k ≤ x ∧ x < k + f
  | 0, _, _, h => by cases h
  | f + 1, k, x, h => by
    rw [insF] at h
    split at h
    · rcases List.mem_cons.1 h with rfl | h
      · omega
      · have := insF_mem r f (k + 1) x h; omega
    · have := insF_mem r f (k + 1) x h; omega
theorem keyF_drop (sel : Nat) (l : List Int) (k acc : Nat) (x : Int) (h : l[k]? = some x) : keyF sel k (l.drop k) acc = keyF sel (k + 1) (l.drop (k + 1)) (if sel.testBit k = true then acc ||| x.toNat else acc) := by
  rw [get_drop h, keyF]
theorem or256 {a b : Nat} (ha : a < 256) (hb : b < 256) : a ||| b < 256 := Nat.or_lt_two_pow (n := 8) ha hb
def TB (J Jx : List Fact → Nat → World → Prop) (k : Nat) (b : Bool) (W : World) : Prop := if b = true then J [] k W else Jx [] k W
theorem insF_t {r f k : Nat} (h : r.testBit k = true) : insF r (f + 1) k = k :: insF r f (k + 1) := by rw [insF, if_pos h]
theorem insF_f {r f k : Nat} (h : r.testBit k = false) : insF r (f + 1) k = insF r f (k + 1) := by rw [insF, if_neg (by rw [h]; simp)]
/-- A room of the set comes up. -/
theorem ins_get {r n i k : Nat} (hi : i < n) (hb : r.testBit i = true) (h : (insF r n 0).drop k = insF r (n - i) i) : (insF r n 0)[k]? = some i ∧ (insF r n 0).drop (k + 1) = insF r (n - (i + 1)) (i + 1) := by
  obtain ⟨f, hf⟩ : ∃ f, n - i = f + 1 := ⟨n - i - 1, by omega⟩
  rw [hf, insF_t hb] at h
  constructor
  · have := congrArg (fun q : List Nat => q[0]?) h
    simpa using this
  · rw [← List.drop_drop, h]
    show insF r f (i + 1) = _
    congr 1; omega
theorem ins_skip {r n i k : Nat} (hi : i < n) (hb : r.testBit i = false) (h : (insF r n 0).drop k = insF r (n - i) i) : (insF r n 0).drop k = insF r (n - (i + 1)) (i + 1) := by
  obtain ⟨f, hf⟩ : ∃ f, n - i = f + 1 := ⟨n - i - 1, by omega⟩
  rw [h, hf, insF_f hb]
  congr 1; omega
def orK (s : StrV) (a t : Nat) : Nat := a ||| ((roomKeys s.s).getD t 0).toNat
theorem keys_ins (s : StrV) (n r : Nat) : keysN s.s n r = (insF r s.rooms.length 0).foldl (orK s) (keyF n 0 s.staff 0) := by
  unfold keysN
  rw [keyF_ins r (roomKeys s.s) (roomKeys s.s) 0 _ (by simp)]
  unfold roomKeys
  rw [List.length_map]; rfl
theorem roomKey_get {s : StrV} {i : Nat} {r : RoomV} (h : s.rooms[i]? = some r) : (roomKeys s.s).getD i 0 = r.keys := by
  unfold roomKeys
  rw [List.getD_eq_getElem?_getD, List.getElem?_map, h]; rfl
theorem pow_bd {k n : Nat} (h : k ≤ n) (hn : n ≤ 60) : 2 ^ k ≤ 1152921504606846976 := by
  have : 2 ^ k ≤ 2 ^ 60 := Nat.pow_le_pow_right (by decide) (by omega)
  exact this
theorem keysN_lt {s : StrV} (h : StrOk s) (n r : Nat) : keysN s.s n r < 256 := by
  unfold keysN
  refine keyF_lt _ (fun x hx => ?_) _ (keyF_lt _ (fun x hx => h.staff x hx) _ (by decide))
  unfold roomKeys at hx
  obtain ⟨rm, hrm, rfl⟩ := List.mem_map.1 hx
  exact (h.room rm hrm).2.2
/-- Where a gate leads from some rooms. -/
def newI (s : StrV) (n r : Nat) (g : GateV) : Int := if leadN s.s n r g.n = true then (if r.testBit g.a.toNat = true then g.b else g.a) else 0
theorem next_new {s : StrV} {n r : Nat} {g : GateV} (h : leadN s.s n r g.n = true) : r ||| 2 ^ (newI s n r g).toNat = nextN r g.n := by
  unfold newI nextN
  rw [if_pos h]
  unfold leadN at h
  rw [Bool.and_eq_true] at h
  have hin : ∀ i, r.testBit i = true → r ||| 2 ^ i = r := fun i hi => Nat.eq_of_testBit_eq fun j => by
    rw [Nat.testBit_or, Nat.testBit_two_pow]
    by_cases e : i = j
    · subst e; rw [hi]; rfl
    · rw [decide_eq_false e, Bool.or_false]
  cases ha : r.testBit g.a.toNat with
  | true => rw [if_pos rfl, ← Nat.or_assoc, hin _ ha]
  | false =>
    have hb : r.testBit g.b.toNat = true := by
      have h1 := h.1
      cases hb : r.testBit g.b.toNat with
      | true => rfl
      | false => rw [ha, hb] at h1; cases h1
    rw [if_neg (by simp), Nat.or_comm (2 ^ g.a.toNat), ← Nat.or_assoc, hin _ hb]
theorem find_step {s : StrV} {n r k : Nat} {g : GateV} (hg : s.gates[k]? = some g) (hall : (s.gates.take k).all (fun g => !leadN s.s n r g.n) = true) (hl : leadN s.s n r g.n = true) : s.s.gates.find? (leadN s.s n r) = some g.n := by
  have e : s.s.gates = (s.gates.take k).map (·.n) ++ g.n :: (s.gates.drop (k + 1)).map (·.n) := by
    show s.gates.map (·.n) = _
    rw [← List.map_cons (f := fun g : GateV => g.n), ← List.map_append, ← get_drop hg, List.take_append_drop]
  rw [e, List.find?_append]
  have h1 : ((s.gates.take k).map (·.n)).find? (leadN s.s n r) = none := by
    rw [List.find?_eq_none]
    intro x hx
    obtain ⟨y, hy, rfl⟩ := List.mem_map.1 hx
    have := List.all_eq_true.1 hall y hy
    simpa using this
  rw [h1, List.find?_cons, hl]; rfl
theorem find_stop {s : StrV} {n r : Nat} (hall : s.gates.all (fun g => !leadN s.s n r g.n) = true) : s.s.gates.find? (leadN s.s n r) = none := by
  rw [List.find?_eq_none]
  intro x hx
  obtain ⟨y, hy, rfl⟩ := List.mem_map.1 hx
  have := List.all_eq_true.1 hall y hy
  simpa using this
theorem take_all {α : Type} {p : α → Bool} {l : List α} {k : Nat} {x : α} (h : l[k]? = some x) (ha : (l.take k).all p = true) (hx : p x = true) : (l.take (k + 1)).all p = true := by
  rw [take_snoc h, List.all_append, ha]; simp [hx]
/-! a group is asked for -/
def askE (s : StrV) (g : Int) : Int := if strB s.s = true then (if btw 0 g ((2 ^ s.staff.length : Nat) - 1) = true then 0 else 41) else 40
def zeroS : StrV := ⟨none, 0, [], none, 0, [], none, 0, []⟩
def askS (s : StrV) (g : Int) : StrV := if askE s g = 0 then s else zeroS
def askG (s : StrV) (g : Int) : Int := if askE s g = 0 then g else 0
theorem ask_40 {s : StrV} {g : Int} (h : strB s.s = false) : askE s g = 40 ∧ askS s g = zeroS ∧ askG s g = 0 := by
  have h0 : askE s g = 40 := by unfold askE; rw [h]; rfl
  exact ⟨h0, by unfold askS; rw [h0]; rfl, by unfold askG; rw [h0]; rfl⟩
theorem ask_41 {s : StrV} {g : Int} (h : strB s.s = true) (h2 : btw 0 g ((2 ^ s.staff.length : Nat) - 1) = false) : askE s g = 41 ∧ askS s g = zeroS ∧ askG s g = 0 := by
  have h0 : askE s g = 41 := by unfold askE; rw [h, h2]; rfl
  exact ⟨h0, by unfold askS; rw [h0]; rfl, by unfold askG; rw [h0]; rfl⟩
theorem ask_0 {s : StrV} {g : Int} (h0 : askE s g = 0) : askS s g = s ∧ askG s g = g ∧ strB s.s = true ∧ 0 ≤ g ∧ g.toNat < 2 ^ s.staff.length ∧ g.toNat < 64 := by
  have hb : strB s.s = true := by
    cases hb : strB s.s with
    | true => rfl
    | false => rw [(ask_40 hb).1] at h0; omega
  have h2 : btw 0 g ((2 ^ s.staff.length : Nat) - 1) = true := by
    cases h2 : btw 0 g ((2 ^ s.staff.length : Nat) - 1) with
    | true => rfl
    | false => rw [(ask_41 hb h2).1] at h0; omega
  have h3 := btw_t.1 h2
  have h4 : 2 ^ s.staff.length ≤ 64 := pow_le64 (rooms_le hb).2.2.2.1
  exact ⟨by unfold askS; rw [if_pos h0], by unfold askG; rw [if_pos h0], hb, by omega, by omega, by omega⟩
theorem ask_yes {s : StrV} {g : Int} (h : strB s.s = true) (h2 : btw 0 g ((2 ^ s.staff.length : Nat) - 1) = true) : askE s g = 0 := by unfold askE; rw [h, h2]; rfl
theorem strE_t {s : StrV} (h : strE s.s = 0) : strB s.s = true := by
  unfold strE at h
  cases hb : strB s.s with
  | true => rfl
  | false => rw [hb] at h; simp at h
theorem strE_f {s : StrV} (h : strE s.s ≠ 0) : strB s.s = false ∧ strE s.s = 40 := by
  unfold strE at *
  cases hb : strB s.s with
  | false => exact ⟨rfl, rfl⟩
  | true => rw [hb] at h; exact absurd rfl h
def EntV (s : StrV) (g : Int) : Int := if askE s g = 0 then (reachV s.s g.toNat : Nat) else 0
theorem new_V (s : StrV) (n r : Nat) (g : GateV) : (r.testBit g.a.toNat == r.testBit g.b.toNat || !(openN s.s n r g.n)) = !(leadN s.s n r g.n) := by
  unfold leadN
  cases r.testBit g.a.toNat <;> cases r.testBit g.b.toNat <;> cases openN s.s n r g.n <;> rfl
end Go.Proofs.YtppfniekcgnmjaaGreatDoor.Va
namespace Go.Proofs.YtppfniekcgnmjaaGreatDoor.Va
open Go.Sx Go.RowKit
set_option maxRecDepth 20000
theorem fa198_0 : FieldIs Tryz.prog 198 0 0 1 false := ⟨⟨_, _, Tryz.underlying198, rfl, rfl, Tryz.sizeOf3, Tryz.isAgg3, by decide⟩⟩
theorem fa198_1 : FieldIs Tryz.prog 198 1 1 1 false := ⟨⟨_, _, Tryz.underlying198, rfl, rfl, Tryz.sizeOf3, Tryz.isAgg3, by decide⟩⟩
theorem fa198_2 : FieldIs Tryz.prog 198 2 2 1 false := ⟨⟨_, _, Tryz.underlying198, rfl, rfl, Tryz.sizeOf3, Tryz.isAgg3, by decide⟩⟩
theorem fa201_0 : FieldIs Tryz.prog 201 0 0 1 false := ⟨⟨_, _, Tryz.underlying201, rfl, rfl, Tryz.sizeOf3, Tryz.isAgg3, by decide⟩⟩
theorem fa201_1 : FieldIs Tryz.prog 201 1 1 1 false := ⟨⟨_, _, Tryz.underlying201, rfl, rfl, Tryz.sizeOf3, Tryz.isAgg3, by decide⟩⟩
theorem fa201_2 : FieldIs Tryz.prog 201 2 2 1 false := ⟨⟨_, _, Tryz.underlying201, rfl, rfl, Tryz.sizeOf3, Tryz.isAgg3, by decide⟩⟩
theorem fa201_3 : FieldIs Tryz.prog 201 3 3 1 false := ⟨⟨_, _, Tryz.underlying201, rfl, rfl, Tryz.sizeOf26, Tryz.isAgg26, by decide⟩⟩
theorem fa204_0 : FieldIs Tryz.prog 204 0 0 1 false := ⟨⟨_, _, Tryz.underlying204, rfl, rfl, Tryz.sizeOf199, Tryz.isAgg199, by decide⟩⟩
theorem fa204_1 : FieldIs Tryz.prog 204 1 1 1 false := ⟨⟨_, _, Tryz.underlying204, rfl, rfl, Tryz.sizeOf202, Tryz.isAgg202, by decide⟩⟩
theorem fa204_2 : FieldIs Tryz.prog 204 2 2 1 false := ⟨⟨_, _, Tryz.underlying204, rfl, rfl, Tryz.sizeOf26, Tryz.isAgg26, by decide⟩⟩
theorem fa250_0 : FieldIs Tryz.prog 250 0 0 3 true := ⟨⟨_, _, Tryz.underlying250, rfl, rfl, Tryz.sizeOf204, Tryz.isAgg204, by decide⟩⟩
theorem st250 : StructIs Tryz.prog 250 [(0, 3), (3, 1)] [.slice none 0 0, .slice none 0 0, .slice none 0 0, .int .i64 0] := ⟨⟨_, Tryz.underlying250, fun w => by simp [Tryz.sizeOf204, Tryz.sizeOf3], Tryz.zeroValue250⟩⟩
end Go.Proofs.YtppfniekcgnmjaaGreatDoor.Va
namespace Go.Proofs.YtppfniekcgnmjaaGreatDoor.Va
open Go.Sx Go.RowKit Vm
set_option maxRecDepth 20000
theorem k_within (n lo hi : Int) (w : World)  : Calls Tryz.prog 167 #[.int .i64 n, .int .i64 lo, .int .i64 hi] w (fun e w' => e = .returned (.bool (btw lo n hi)) ∧ Grow w w') := by
  refine enter_pure (args := [.int .i64 n, .int .i64 lo, .int .i64 hi]) [] Tryz.func167 rfl (by rw [Tryz.ntmps167]; simp) (by simp) ?_
  refine cj_seq ?_
  refine cj_regionG (gj_step (y_assign rfl) rfl rfl rfl (gj_nil ?_))
  refine ej_th (cj_seq ?_)
  refine cj_regionG (gj_step (y_move rfl) rfl rfl rfl (gj_step (y_move rfl) rfl rfl rfl (gj_step (y_geq rfl rfl) rfl rfl rfl (gj_step (y_move rfl) rfl rfl rfl (gj_g 3 10 13 rfl rfl rfl rfl (fun hg10 => gj_yes rfl rfl rfl (y_move rfl) rfl rfl (gj_yes rfl rfl rfl (y_move rfl) rfl rfl (gj_yes rfl rfl rfl (y_leq rfl rfl) rfl rfl (gj_nil rfl)))) (gj_step (y_and rfl rfl rfl) rfl rfl rfl (gj_step (y_assign rfl) rfl rfl rfl (gj_nil ?_))))))))
  refine ej_th (cj_ret ?_)
  exact ej_ret1 rfl Tryz.results167 rfl (fun w' hp => ⟨rfl, hp.below⟩)

theorem k_From (lo n hi : Int) (w : World)  : Calls Tryz.prog 8 #[.int .i64 lo, .int .i64 n, .int .i64 hi] w (fun e w' => e = .returned (.bool (btw lo n hi)) ∧ Grow w w') := by
  refine enter_pure (args := [.int .i64 lo, .int .i64 n, .int .i64 hi]) [] Tryz.func8 rfl (by rw [Tryz.ntmps8]; simp) (by simp) ?_
  refine cj_seq ?_
  refine cj_regionG (gj_step (y_assign rfl) rfl rfl rfl (gj_nil ?_))
  refine ej_th (cj_seq ?_)
  refine cj_regionG (gj_step (y_move rfl) rfl rfl rfl (gj_step (y_move rfl) rfl rfl rfl (gj_step (y_leq rfl rfl) rfl rfl rfl (gj_step (y_move rfl) rfl rfl rfl (gj_g 3 10 13 rfl rfl rfl rfl (fun hg10 => gj_yes rfl rfl rfl (y_move rfl) rfl rfl (gj_yes rfl rfl rfl (y_move rfl) rfl rfl (gj_yes rfl rfl rfl (y_leq rfl rfl) rfl rfl (gj_nil rfl)))) (gj_step (y_and rfl rfl rfl) rfl rfl rfl (gj_step (y_assign rfl) rfl rfl rfl (gj_nil ?_))))))))
  refine ej_th (cj_ret ?_)
  exact ej_ret1 rfl Tryz.results8 rfl (fun w' hp => ⟨rfl, hp.below⟩)

theorem k_set (n : Int) (many : Nat) (w : World) (hm : many ≤ 62) : Calls Tryz.prog 149 #[.int .i64 n, .int .i64 (many : Nat)] w (fun e w' => e = .returned (.bool (btw 0 n ((2 ^ many : Nat) - 1))) ∧ Grow w w') := by
  have hp0 : 2 ^ many ≤ 2 ^ 62 := Nat.pow_le_pow_right (by decide) hm
  have hp1 : 0 < 2 ^ many := Nat.two_pow_pos _
  refine enter_pure (args := [.int .i64 n, .int .i64 (many : Nat)]) [] Tryz.func149 rfl (by rw [Tryz.ntmps149]; simp) (by simp) ?_
  refine cj_seq ?_
  refine cj_regionG (gj_step (y_assign rfl) rfl rfl rfl (gj_nil ?_))
  refine ej_th (cj_seq ?_)
  refine cj_regionG ?_
  refine gj_step (y_move rfl) rfl rfl rfl (gj_step (y_move rfl) rfl rfl rfl (gj_step (y_shl1 rfl rfl hm) rfl rfl rfl (gj_step (y_sub rfl rfl (by omega)) rfl rfl rfl (?_))))
  refine gj_step (y_call Tryz.call167 rfl (fun w hp => k_within _ _ _ w)) rfl rfl rfl ?_
  refine gj_step (y_assign rfl) rfl rfl rfl (?_)
  refine gj_nil ?_
  refine ej_th (cj_ret ?_)
  exact ej_ret1 rfl Tryz.results149 rfl (fun w' hp => ⟨rfl, hp.below⟩)

theorem k_has (a b : Nat) (w : World) (ha : a ≤ 9223372036854775807) (hb : b ≤ 9223372036854775807) : Calls Tryz.prog 172 #[.int .i64 (a : Nat), .int .i64 (b : Nat)] w (fun e w' => e = .returned (.bool (hasN a b)) ∧ Grow w w') := by
  refine enter_pure (args := [.int .i64 (a : Nat), .int .i64 (b : Nat)]) [] Tryz.func172 rfl (by rw [Tryz.ntmps172]; simp) (by simp) ?_
  refine cj_seq ?_
  refine cj_regionG (gj_step (y_assign rfl) rfl rfl rfl (gj_nil ?_))
  refine ej_th (cj_seq ?_)
  refine cj_regionG (gj_step (y_move rfl) rfl rfl rfl (gj_step (y_move rfl) rfl rfl rfl (gj_step (y_andNotN rfl rfl hb ha) rfl rfl rfl (gj_step (y_eql rfl rfl) rfl rfl rfl (gj_step (y_assign rfl) rfl rfl rfl (gj_nil ?_))))))
  refine ej_th (cj_ret ?_)
  refine ej_ret1 rfl Tryz.results172 rfl (fun w' hp => ⟨?_, hp.below⟩)
  rw [has_V]

theorem k_IndexI (l : List Int) (A : Option Addr) (c : Nat) (f : Nat) (ca : Array Value) (q : Int → Bool) (w : World) (hl : Rd w 1 enInt A l) (hen : ∀ args w, (callFunc f args).run Tryz.prog w = .ok (.enter f args) w) (hpp : ∀ x ∈ l, ∀ w1, Grow w w1 → Calls Tryz.prog f (#[] ++ [.int .i64 x].toArray ++ ca) w1 (fun e w2 => e = .returned (.bool (q x)) ∧ Grow w1 w2)) : Calls Tryz.prog 143 #[.slice A l.length c, .func (.func f) #[] ca] w (fun e w' => e = .returned (.int .i64 (fidx q l 0)) ∧ Grow w w') := by
  have hlen := hl.len
  refine enter_pure (args := [.slice A l.length c, .func (.func f) #[] ca]) [sl (fun b => b < w.heap.size) 1 enInt A l] Tryz.func143 rfl (by rw [Tryz.ntmps143]; simp) (fun g hg => by simp at hg; subst hg; exact ⟨hl, fun _ h => h⟩) ?_
  refine cj_seq ?_
  refine cj_regionG (gj_step (y_assign rfl) rfl rfl rfl (gj_nil ?_))
  refine ej_th (cj_seq (cj_seq ?_))
  refine cj_regionG (gj_step (y_move rfl) rfl rfl rfl (gj_step (y_lenA Tryz.underlying26 rfl) rfl rfl rfl (gj_step (y_move rfl) rfl rfl rfl (gj_nil ?_))))
  refine ej_th (cj_block ?_)
  refine cj_lpic (X := Nat) [(0, _), (1, _), (7, _)] (fun k => k ≤ l.length ∧ fidx q (l.drop k) k = fidx q l 0) (fun k => [(8, .int .i64 k)]) (fun k => l.length - k) 0 (⟨Nat.zero_le _, rfl⟩) ⟨rfl, rfl, rfl, rfl, trivial⟩ ?_
  rintro k ⟨hk, hsk⟩
  dsimp only [List.cons_append, List.nil_append]
  refine cj_seq ?_
  refine cj_regionG (gj_step (y_lss rfl rfl) rfl rfl rfl (gj_nil ?_))
  refine ej_th (cj_seq ?_)
  refine cj_cond rfl (fun h9 => ?_) (fun h9 => ?_)
  · have h9b := h9
    try simp only [sxb] at h9
    obtain ⟨x, hx⟩ : ∃ x, l[k]? = some x := ⟨_, List.getElem?_eq_getElem (by omega)⟩
    rw [fidx_drop q l k x hx] at hsk
    refine cj_skip (ej_th (cj_seq (cj_block (cj_seq ?_))))
    refine cj_regionG (gj_step (y_move rfl) rfl rfl rfl (gj_step (y_assign rfl) rfl rfl rfl (gj_nil ?_)))
    refine ej_th (cj_seq ?_)
    refine cj_regionG ?_
    refine gj_step (y_move rfl) rfl rfl rfl (gj_step (y_move rfl) rfl rfl rfl (gj_step (y_move rfl) rfl rfl rfl (gj_step (y_ixR (reads_sl) Tryz.underlying26 Tryz.sizeOf3 rfl rfl (⟨by omega, by omega⟩)) rfl rfl rfl (gj_step (y_ld0 (reads_sl) Tryz.isAgg3 rfl (hx) rfl) rfl rfl rfl (?_)))))
    refine gj_step (y_callV hen rfl rfl (fun w1 hp => hpp x (List.mem_of_getElem? hx) w1 hp.below)) rfl rfl rfl ?_
    refine gj_nil ?_
    refine ej_th ?_
    refine cj_cond rfl (fun h16 => ?_) (fun h16 => ?_)
    · have h16b := h16
      try simp only [sxb] at h16
      refine cj_seq ?_
      refine cj_regionG (gj_step (y_move rfl) rfl rfl rfl (gj_step (y_assign rfl) rfl rfl rfl (gj_nil ?_)))
      refine ej_th (cj_ret (ej_blk_ret (ej_then_ret (ej_then_ret (ej_blk_ret (ej_then_ret ?_))))))
      refine ej_ret1 rfl Tryz.results143 rfl (fun w' hp => ⟨?_, hp.below⟩)
      rw [← hsk, if_pos h16b]
    · have h16b := h16
      try simp only [sxb] at h16
      refine cj_skip (ej_blk (ej_th ?_))
      refine cj_regionG (gj_step (y_add rfl rfl (by omega)) rfl rfl rfl (gj_step (y_move rfl) rfl rfl rfl (gj_nil ?_)))
      exact ej_nx (k + 1) (by omega) ⟨by omega, by rw [← hsk, if_neg (by rw [h16b]; simp)]⟩ ⟨rfl, rfl, rfl, rfl, trivial⟩
  · have h9b := h9
    try simp only [sxb] at h9
    refine cj_exit (ej_then_exit (ej_then_exit (ej_blk_hit (ej_th (cj_seq ?_)))))
    refine cj_regionG (gj_step (y_assign rfl) rfl rfl rfl (gj_nil ?_))
    refine ej_th (cj_ret ?_)
    refine ej_ret1 rfl Tryz.results143 rfl (fun w' hp => ⟨?_, hp.below⟩)
    rw [← hsk, List.drop_of_length_le (by omega)]; rfl

theorem k_ContI (l : List Int) (A : Option Addr) (c : Nat) (f : Nat) (ca : Array Value) (q : Int → Bool) (w : World) (hl : Rd w 1 enInt A l) (hen : ∀ args w, (callFunc f args).run Tryz.prog w = .ok (.enter f args) w) (hpp : ∀ x ∈ l, ∀ w1, Grow w w1 → Calls Tryz.prog f (#[] ++ [.int .i64 x].toArray ++ ca) w1 (fun e w2 => e = .returned (.bool (q x)) ∧ Grow w1 w2)) : Calls Tryz.prog 110 #[.slice A l.length c, .func (.func f) #[] ca] w (fun e w' => e = .returned (.bool (l.any q)) ∧ Grow w w') := by
  refine enter_pure (args := [.slice A l.length c, .func (.func f) #[] ca]) [sl (fun b => b < w.heap.size) 1 enInt A l] Tryz.func110 rfl (by rw [Tryz.ntmps110]; simp) (fun g hg => by simp at hg; subst hg; exact ⟨hl, fun _ h => h⟩) ?_
  refine cj_seq ?_
  refine cj_regionG (gj_step (y_assign rfl) rfl rfl rfl (gj_nil ?_))
  refine ej_th (cj_seq ?_)
  refine cj_regionG ?_
  refine gj_step (y_move rfl) rfl rfl rfl (gj_step (y_move rfl) rfl rfl rfl (?_))
  refine gj_step (y_call Tryz.call143 rfl (fun w hp => k_IndexI l A c f ca q w hp.rd hen (fun x hx w1 hg => hpp x hx w1 (grow_trans hp.below hg)))) rfl rfl rfl ?_
  refine gj_step (y_geq rfl rfl) rfl rfl rfl (gj_step (y_assign rfl) rfl rfl rfl (?_))
  refine gj_nil ?_
  refine ej_th (cj_ret ?_)
  refine ej_ret1 rfl Tryz.results110 rfl (fun w' hp => ⟨?_, hp.below⟩)
  rw [fidx_any q l]

theorem k_IndexG (l : List GateV) (A : Option Addr) (c : Nat) (f : Nat) (ca : Array Value) (q : GateV → Bool) (w : World) (hl : Rd w 4 encGa A l) (hen : ∀ args w, (callFunc f args).run Tryz.prog w = .ok (.enter f args) w) (hpp : ∀ x ∈ l, ∀ w1, Grow w w1 → Calls Tryz.prog f (#[] ++ [.agg #[.int .i64 x.a, .int .i64 x.b, .int .i64 x.need, .slice x.A x.ways.length x.c]].toArray ++ ca) w1 (fun e w2 => e = .returned (.bool (q x)) ∧ Grow w1 w2)) : Calls Tryz.prog 190 #[.slice A l.length c, .func (.func f) #[] ca] w (fun e w' => e = .returned (.int .i64 (fidx q l 0)) ∧ Grow w w') := by
  have hlen := hl.len
  refine enter_pure (args := [.slice A l.length c, .func (.func f) #[] ca]) [sl (fun b => b < w.heap.size) 4 encGa A l] Tryz.func190 rfl (by rw [Tryz.ntmps190]; simp) (fun g hg => by simp at hg; subst hg; exact ⟨hl, fun _ h => h⟩) ?_
  refine cj_seq ?_
  refine cj_regionG (gj_step (y_assign rfl) rfl rfl rfl (gj_nil ?_))
  refine ej_th (cj_seq (cj_seq ?_))
  refine cj_regionG (gj_step (y_move rfl) rfl rfl rfl (gj_step (y_lenA Tryz.underlying202 rfl) rfl rfl rfl (gj_step (y_move rfl) rfl rfl rfl (gj_nil ?_))))
  refine ej_th (cj_block ?_)
  refine cj_lpic (X := Nat) [(0, _), (1, _), (7, _)] (fun k => k ≤ l.length ∧ fidx q (l.drop k) k = fidx q l 0) (fun k => [(8, .int .i64 k)]) (fun k => l.length - k) 0 (⟨Nat.zero_le _, rfl⟩) ⟨rfl, rfl, rfl, rfl, trivial⟩ ?_
  rintro k ⟨hk, hsk⟩
  dsimp only [List.cons_append, List.nil_append]
  refine cj_seq ?_
  refine cj_regionG (gj_step (y_lss rfl rfl) rfl rfl rfl (gj_nil ?_))
  refine ej_th (cj_seq ?_)
  refine cj_cond rfl (fun h9 => ?_) (fun h9 => ?_)
  · have h9b := h9
    try simp only [sxb] at h9
    obtain ⟨x, hx⟩ : ∃ x, l[k]? = some x := ⟨_, List.getElem?_eq_getElem (by omega)⟩
    rw [fidx_drop q l k x hx] at hsk
    refine cj_skip (ej_th (cj_seq (cj_block (cj_seq ?_))))
    refine cj_regionG (gj_step (y_move rfl) rfl rfl rfl (gj_step (y_assign rfl) rfl rfl rfl (gj_nil ?_)))
    refine ej_th (cj_seq ?_)
    refine cj_regionG ?_
    refine gj_step (y_move rfl) rfl rfl rfl (gj_step (y_move rfl) rfl rfl rfl (gj_step (y_move rfl) rfl rfl rfl (gj_step (y_ixR (reads_sl) Tryz.underlying202 Tryz.sizeOf201 rfl rfl (⟨by omega, by omega⟩)) rfl rfl rfl (gj_step (y_ldW (reads_sl) Tryz.isAgg201 Tryz.sizeOf201 rfl (hx) (fun _ => rfl)) rfl rfl rfl (?_)))))
    refine gj_step (y_callV hen rfl rfl (fun w1 hp => hpp x (List.mem_of_getElem? hx) w1 hp.below)) rfl rfl rfl ?_
    refine gj_nil ?_
    refine ej_th ?_
    refine cj_cond rfl (fun h16 => ?_) (fun h16 => ?_)
    · have h16b := h16
      try simp only [sxb] at h16
      refine cj_seq ?_
      refine cj_regionG (gj_step (y_move rfl) rfl rfl rfl (gj_step (y_assign rfl) rfl rfl rfl (gj_nil ?_)))
      refine ej_th (cj_ret (ej_blk_ret (ej_then_ret (ej_then_ret (ej_blk_ret (ej_then_ret ?_))))))
      refine ej_ret1 rfl Tryz.results190 rfl (fun w' hp => ⟨?_, hp.below⟩)
      rw [← hsk, if_pos h16b]
    · have h16b := h16
      try simp only [sxb] at h16
      refine cj_skip (ej_blk (ej_th ?_))
      refine cj_regionG (gj_step (y_add rfl rfl (by omega)) rfl rfl rfl (gj_step (y_move rfl) rfl rfl rfl (gj_nil ?_)))
      exact ej_nx (k + 1) (by omega) ⟨by omega, by rw [← hsk, if_neg (by rw [h16b]; simp)]⟩ ⟨rfl, rfl, rfl, rfl, trivial⟩
  · have h9b := h9
    try simp only [sxb] at h9
    refine cj_exit (ej_then_exit (ej_then_exit (ej_blk_hit (ej_th (cj_seq ?_)))))
    refine cj_regionG (gj_step (y_assign rfl) rfl rfl rfl (gj_nil ?_))
    refine ej_th (cj_ret ?_)
    refine ej_ret1 rfl Tryz.results190 rfl (fun w' hp => ⟨?_, hp.below⟩)
    rw [← hsk, List.drop_of_length_le (by omega)]; rfl

theorem k_ContG (l : List GateV) (A : Option Addr) (c : Nat) (f : Nat) (ca : Array Value) (q : GateV → Bool) (w : World) (hl : Rd w 4 encGa A l) (hen : ∀ args w, (callFunc f args).run Tryz.prog w = .ok (.enter f args) w) (hpp : ∀ x ∈ l, ∀ w1, Grow w w1 → Calls Tryz.prog f (#[] ++ [.agg #[.int .i64 x.a, .int .i64 x.b, .int .i64 x.need, .slice x.A x.ways.length x.c]].toArray ++ ca) w1 (fun e w2 => e = .returned (.bool (q x)) ∧ Grow w1 w2)) : Calls Tryz.prog 169 #[.slice A l.length c, .func (.func f) #[] ca] w (fun e w' => e = .returned (.bool (l.any q)) ∧ Grow w w') := by
  refine enter_pure (args := [.slice A l.length c, .func (.func f) #[] ca]) [sl (fun b => b < w.heap.size) 4 encGa A l] Tryz.func169 rfl (by rw [Tryz.ntmps169]; simp) (fun g hg => by simp at hg; subst hg; exact ⟨hl, fun _ h => h⟩) ?_
  refine cj_seq ?_
  refine cj_regionG (gj_step (y_assign rfl) rfl rfl rfl (gj_nil ?_))
  refine ej_th (cj_seq ?_)
  refine cj_regionG ?_
  refine gj_step (y_move rfl) rfl rfl rfl (gj_step (y_move rfl) rfl rfl rfl (?_))
  refine gj_step (y_call Tryz.call190 rfl (fun w hp => k_IndexG l A c f ca q w hp.rd hen (fun x hx w1 hg => hpp x hx w1 (grow_trans hp.below hg)))) rfl rfl rfl ?_
  refine gj_step (y_geq rfl rfl) rfl rfl rfl (gj_step (y_assign rfl) rfl rfl rfl (?_))
  refine gj_nil ?_
  refine ej_th (cj_ret ?_)
  refine ej_ret1 rfl Tryz.results169 rfl (fun w' hp => ⟨?_, hp.below⟩)
  rw [fidx_any q l]

theorem k_ck1 (n : Int) (w : World)  : Calls Tryz.prog 168 #[.int .i64 n] w (fun e w' => e = .returned (.bool (!(btw 0 n 255))) ∧ Grow w w') := by
  refine enter_pure (args := [.int .i64 n]) [] Tryz.func168 rfl (by rw [Tryz.ntmps168]; simp) (by simp) ?_
  refine cj_seq ?_
  refine cj_regionG (gj_step (y_assign rfl) rfl rfl rfl (gj_nil ?_))
  refine ej_th (cj_seq ?_)
  refine cj_regionG ?_
  refine gj_step (y_move rfl) rfl rfl rfl (?_)
  refine gj_step (y_call Tryz.call149 rfl (fun w hp => k_set _ 8 w (by omega))) rfl rfl rfl ?_
  refine gj_step (y_not rfl) rfl rfl rfl (gj_step (y_assign rfl) rfl rfl rfl (?_))
  refine gj_nil ?_
  refine ej_th (cj_ret ?_)
  exact ej_ret1 rfl Tryz.results168 rfl (fun w' hp => ⟨rfl, hp.below⟩)

theorem k_ga1 (n : Int) (w : World)  : Calls Tryz.prog 191 #[.int .i64 n] w (fun e w' => e = .returned (.bool (!(btw 0 n 255))) ∧ Grow w w') := by
  refine enter_pure (args := [.int .i64 n]) [] Tryz.func191 rfl (by rw [Tryz.ntmps191]; simp) (by simp) ?_
  refine cj_seq ?_
  refine cj_regionG (gj_step (y_assign rfl) rfl rfl rfl (gj_nil ?_))
  refine ej_th (cj_seq ?_)
  refine cj_regionG ?_
  refine gj_step (y_move rfl) rfl rfl rfl (?_)
  refine gj_step (y_call Tryz.call149 rfl (fun w hp => k_set _ 8 w (by omega))) rfl rfl rfl ?_
  refine gj_step (y_not rfl) rfl rfl rfl (gj_step (y_assign rfl) rfl rfl rfl (?_))
  refine gj_nil ?_
  refine ej_th (cj_ret ?_)
  exact ej_ret1 rfl Tryz.results191 rfl (fun w' hp => ⟨rfl, hp.below⟩)

theorem k_gate (s : StrV) (n : Int) (g : GateV) (w : World) (hr : s.rooms.length ≤ 9223372036854775807) (hg : Rd w 1 enInt g.A g.ways) : Calls Tryz.prog 171 #[.agg #[.slice s.Ar s.rooms.length s.cr, .slice s.Ag s.gates.length s.cg, .slice s.As s.staff.length s.cs, .int .i64 n], .agg #[.int .i64 g.a, .int .i64 g.b, .int .i64 g.need, .slice g.A g.ways.length g.c]] w (fun e w' => e = .returned (.bool (gateB s.rooms.length g.n)) ∧ Grow w w') := by
  refine enter_pure (args := [.agg #[.slice s.Ar s.rooms.length s.cr, .slice s.Ag s.gates.length s.cg, .slice s.As s.staff.length s.cs, .int .i64 n], .agg #[.int .i64 g.a, .int .i64 g.b, .int .i64 g.need, .slice g.A g.ways.length g.c]]) [sl (fun b => b < w.heap.size) 1 enInt g.A g.ways] Tryz.func171 rfl (by rw [Tryz.ntmps171]; simp) (fun g hg => by simp at hg; subst hg; exact ⟨hg, fun _ h => h⟩) ?_
  refine cj_seq (cj_region ?_)
  refine oj_box rfl rfl rfl (fun b2 => ?_)
  refine oj_box rfl rfl rfl (fun b3 => ?_)
  refine oj_step (y_assign rfl) rfl rfl rfl ?_
  refine oj_nil ?_
  refine ej_th (cj_seq (cj_seq ?_))
  refine cj_regionG ?_
  refine gj_step (y_fa0 fa201_0 rfl) rfl rfl rfl (gj_step (y_load1 Tryz.isAgg3 rfl rfl) rfl rfl rfl (gj_step (y_fa0 fa250_0 rfl) rfl rfl rfl (gj_step (y_fa0 fa204_0 rfl) rfl rfl rfl (gj_step (y_load1 Tryz.isAgg199 rfl rfl) rfl rfl rfl (gj_step (y_lenA Tryz.underlying199 rfl) rfl rfl rfl (gj_step (y_sub rfl rfl (by omega)) rfl rfl rfl (?_)))))))
  refine gj_step (y_call Tryz.call167 rfl (fun w hp => k_within _ _ _ w)) rfl rfl rfl ?_
  refine gj_step (y_not rfl) rfl rfl rfl (gj_step (y_move rfl) rfl rfl rfl (?_))
  refine gj_g 9 14 23 rfl rfl rfl rfl (fun hg14 => gj_yes rfl rfl rfl (y_fa fa201_1 rfl) rfl rfl (gj_yes rfl rfl rfl (y_load1 Tryz.isAgg3 rfl rfl) rfl rfl (gj_yes rfl rfl rfl (y_fa0 fa250_0 rfl) rfl rfl (gj_yes rfl rfl rfl (y_fa0 fa204_0 rfl) rfl rfl (gj_yes rfl rfl rfl (y_load1 Tryz.isAgg199 rfl rfl) rfl rfl (gj_yes rfl rfl rfl (y_lenA Tryz.underlying199 rfl) rfl rfl (gj_yes rfl rfl rfl (y_sub rfl rfl (by omega)) rfl rfl (gj_yes rfl rfl rfl (y_call Tryz.call167 rfl (fun w hp => k_within _ _ _ w)) rfl rfl (gj_yes rfl rfl rfl (y_not rfl) rfl rfl (gj_nil rfl)))))))))) ?_
  refine gj_step (y_or rfl rfl rfl) rfl rfl rfl (gj_step (y_move rfl) rfl rfl rfl (?_))
  refine gj_g 5 25 30 rfl rfl rfl rfl (fun hg25 => gj_yes rfl rfl rfl (y_fa0 fa201_0 rfl) rfl rfl (gj_yes rfl rfl rfl (y_load1 Tryz.isAgg3 rfl rfl) rfl rfl (gj_yes rfl rfl rfl (y_fa fa201_1 rfl) rfl rfl (gj_yes rfl rfl rfl (y_load1 Tryz.isAgg3 rfl rfl) rfl rfl (gj_yes rfl rfl rfl (y_eql rfl rfl) rfl rfl (gj_nil rfl)))))) ?_
  refine gj_step (y_or rfl rfl rfl) rfl rfl rfl (gj_step (y_move rfl) rfl rfl rfl (?_))
  refine gj_g 4 32 36 rfl rfl rfl rfl (fun hg32 => gj_yes rfl rfl rfl (y_fa fa201_2 rfl) rfl rfl (gj_yes rfl rfl rfl (y_load1 Tryz.isAgg3 rfl rfl) rfl rfl (gj_yes rfl rfl rfl (y_call Tryz.call167 rfl (fun w hp => k_within _ _ _ w)) rfl rfl (gj_yes rfl rfl rfl (y_not rfl) rfl rfl (gj_nil rfl))))) ?_
  refine gj_step (y_or rfl rfl rfl) rfl rfl rfl (gj_step (y_move rfl) rfl rfl rfl (?_))
  refine gj_g 5 38 43 rfl rfl rfl rfl (fun hg38 => gj_yes rfl rfl rfl (y_fa fa201_3 rfl) rfl rfl (gj_yes rfl rfl rfl (y_load1 Tryz.isAgg26 rfl rfl) rfl rfl (gj_yes rfl rfl rfl (y_lenA Tryz.underlying26 rfl) rfl rfl (gj_yes rfl rfl rfl (y_call Tryz.call167 rfl (fun w hp => k_within _ _ _ w)) rfl rfl (gj_yes rfl rfl rfl (y_not rfl) rfl rfl (gj_nil rfl)))))) ?_
  refine gj_step (y_or rfl rfl rfl) rfl rfl rfl (?_)
  refine gj_nil ?_
  refine ej_th ?_
  refine cj_cond rfl (fun h44 => ?_) (fun h44 => ?_)
  · have h44b := h44
    try simp only [sxb] at h44
    rw [gate1_V] at h44b
    refine cj_seq ?_
    refine cj_regionG (gj_step (y_assign rfl) rfl rfl rfl (gj_nil ?_))
    refine ej_th (cj_ret (ej_then_ret ?_))
    refine ej_ret1 rfl Tryz.results171 rfl (fun w' hp => ⟨?_, hp.below⟩)
    rw [gate1_eq, not_t h44b]; rfl
  · have h44b := h44
    try simp only [sxb] at h44
    rw [gate1_V] at h44b
    refine cj_skip (ej_th (cj_seq ?_))
    refine cj_regionG ?_
    refine gj_step (y_fa fa201_3 rfl) rfl rfl rfl (gj_step (y_load1 Tryz.isAgg26 rfl rfl) rfl rfl rfl (?_))
    refine gj_step (y_call Tryz.call110 rfl (fun w hp => k_ContI (g.ways) g.A g.c 191 #[] (fun n => !(btw 0 n 255)) w hp.rd Tryz.call191 (fun x hx w1 hg => k_ga1 x w1))) rfl rfl rfl ?_
    refine gj_step (y_not rfl) rfl rfl rfl (gj_step (y_assign rfl) rfl rfl rfl (?_))
    refine gj_nil ?_
    refine ej_th (cj_ret ?_)
    refine ej_ret1 rfl Tryz.results171 rfl (fun w' hp => ⟨?_, hp.below⟩)
    rw [gate1_eq, not_f h44b, any_not, Bool.not_not]; rfl

theorem k_ck2 (s : StrV) (g : GateV) (b : Nat) (w : World) (hr : s.rooms.length ≤ 9223372036854775807) (hg : Rd w 1 enInt g.A g.ways) (hb : (ownB b (cellsB 204 [.slice s.Ar s.rooms.length s.cr, .slice s.Ag s.gates.length s.cg, .slice s.As s.staff.length s.cs])).P w) : Calls Tryz.prog 170 #[.agg #[.int .i64 g.a, .int .i64 g.b, .int .i64 g.need, .slice g.A g.ways.length g.c], .pointer (some ⟨b, 0, none⟩)] w (fun e w' => e = .returned (.bool (!(gateB s.rooms.length g.n))) ∧ Grow w w') := by
  refine enter_pure (args := [.agg #[.int .i64 g.a, .int .i64 g.b, .int .i64 g.need, .slice g.A g.ways.length g.c], .pointer (some ⟨b, 0, none⟩)]) [sl (fun b => b < w.heap.size) 1 enInt g.A g.ways, ownB b (cellsB 204 [.slice s.Ar s.rooms.length s.cr, .slice s.Ag s.gates.length s.cg, .slice s.As s.staff.length s.cs])] Tryz.func170 rfl (by rw [Tryz.ntmps170]; simp) (fun g hg2 => by
    rcases List.mem_cons.1 hg2 with rfl | hg2
    · exact ⟨hg, fun _ h => h⟩
    · rw [List.mem_singleton.1 hg2]; exact ⟨hb, fun i hi => by have : i = b := hi; subst this; exact (Array.getElem?_eq_some_iff.1 hb).1⟩) ?_
  refine cj_seq (cj_region ?_)
  refine oj_box rfl rfl rfl (fun b2 => ?_)
  refine oj_step (y_assign rfl) rfl rfl rfl ?_
  refine oj_nil ?_
  refine ej_th (cj_seq ?_)
  refine cj_regionG ?_
  refine gj_step (y_loadSN Tryz.isAgg204 Tryz.sizeOf204 rfl) rfl rfl rfl (gj_step (y_build (cs := [.slice s.Ar s.rooms.length s.cr, .slice s.Ag s.gates.length s.cg, .slice s.As s.staff.length s.cs, .int .i64 0]) st250 rfl (by kernel_rfl)) rfl rfl rfl (gj_step (y_loadN Tryz.isAgg201 Tryz.sizeOf201 rfl) rfl rfl rfl (?_)))
  refine gj_step (y_call Tryz.call171 rfl (fun w hp => k_gate s 0 g w hr hp.rd)) rfl rfl rfl ?_
  refine gj_step (y_not rfl) rfl rfl rfl (gj_step (y_assign rfl) rfl rfl rfl (?_))
  refine gj_nil ?_
  refine ej_th (cj_ret ?_)
  exact ej_ret1 rfl Tryz.results170 rfl (fun w' hp => ⟨rfl, hp.below⟩)

theorem k_Check (s : StrV) (w : World) (hs : StrRd w s) : Calls Tryz.prog 148 #[.agg #[.slice s.Ar s.rooms.length s.cr, .slice s.Ag s.gates.length s.cg, .slice s.As s.staff.length s.cs]] w (fun e w' => e = .returned (.int .i64 (strE s.s)) ∧ Grow w w') := by
  have hlr := hs.rooms.len
  have hlg := hs.gates.len
  have hls := hs.staff.len
  refine enter_pure (args := [.agg #[.slice s.Ar s.rooms.length s.cr, .slice s.Ag s.gates.length s.cg, .slice s.As s.staff.length s.cs]]) [sl (fun b => b < w.heap.size) 3 encRo s.Ar s.rooms, sl (fun b => b < w.heap.size) 4 encGa s.Ag s.gates, sl (fun b => b < w.heap.size) 1 enInt s.As s.staff] Tryz.func148 rfl (by rw [Tryz.ntmps148]; simp) (fun g hg => by simp at hg; rcases hg with rfl | rfl | rfl; exact ⟨hs.rooms, fun _ h => h⟩; exact ⟨hs.gates, fun _ h => h⟩; exact ⟨hs.staff, fun _ h => h⟩) ?_
  refine cj_seq (cj_region ?_)
  refine oj_box rfl rfl rfl (fun b1 => ?_)
  refine oj_step (y_assign rfl) rfl rfl rfl ?_
  refine oj_nil ?_
  refine ej_th (cj_seq (cj_seq ?_))
  refine cj_regionG ?_
  refine gj_step (y_fa0 fa204_0 rfl) rfl rfl rfl (gj_step (y_load1 Tryz.isAgg199 rfl rfl) rfl rfl rfl (gj_step (y_lenA Tryz.underlying199 rfl) rfl rfl rfl (?_)))
  refine gj_step (y_call Tryz.call167 rfl (fun w hp => k_within _ _ _ w)) rfl rfl rfl ?_
  refine gj_step (y_not rfl) rfl rfl rfl (gj_step (y_move rfl) rfl rfl rfl (?_))
  refine gj_g 4 10 14 rfl rfl rfl rfl (fun hg10 => gj_yes rfl rfl rfl (y_fa fa204_1 rfl) rfl rfl (gj_yes rfl rfl rfl (y_load1 Tryz.isAgg202 rfl rfl) rfl rfl (gj_yes rfl rfl rfl (y_lenA Tryz.underlying202 rfl) rfl rfl (gj_yes rfl rfl rfl (y_gtr rfl rfl) rfl rfl (gj_nil rfl))))) ?_
  refine gj_step (y_or rfl rfl rfl) rfl rfl rfl (gj_step (y_move rfl) rfl rfl rfl (?_))
  refine gj_g 5 16 21 rfl rfl rfl rfl (fun hg16 => gj_yes rfl rfl rfl (y_fa fa204_2 rfl) rfl rfl (gj_yes rfl rfl rfl (y_load1 Tryz.isAgg26 rfl rfl) rfl rfl (gj_yes rfl rfl rfl (y_lenA Tryz.underlying26 rfl) rfl rfl (gj_yes rfl rfl rfl (y_call Tryz.call167 rfl (fun w hp => k_within _ _ _ w)) rfl rfl (gj_yes rfl rfl rfl (y_not rfl) rfl rfl (gj_nil rfl)))))) ?_
  refine gj_step (y_or rfl rfl rfl) rfl rfl rfl (?_)
  refine gj_nil ?_
  refine ej_th ?_
  refine cj_cond rfl (fun h22 => ?_) (fun h22 => ?_)
  · have h22b := h22
    try simp only [sxb] at h22
    rw [str1_V] at h22b
    refine cj_seq ?_
    refine cj_regionG (gj_step (y_assign rfl) rfl rfl rfl (gj_nil ?_))
    refine ej_th (cj_ret (ej_then_ret ?_))
    refine ej_ret1 rfl Tryz.results148 rfl (fun w' hp => ⟨?_, hp.below⟩)
    rw [str_no1 (not_t h22b)]
  · have h22b := h22
    try simp only [sxb] at h22
    rw [str1_V] at h22b
    refine cj_skip (ej_th (cj_seq (cj_seq ?_)))
    refine cj_regionG (gj_step (y_fa0 fa204_0 rfl) rfl rfl rfl (gj_step (y_load1 Tryz.isAgg199 rfl rfl) rfl rfl rfl (gj_step (y_lenA Tryz.underlying199 rfl) rfl rfl rfl (gj_step (y_move rfl) rfl rfl rfl (gj_nil ?_)))))
    refine ej_th (cj_block ?_)
    refine cj_lpic (X := Nat) [(1, _), (24, _), (25, _)] (fun k => k ≤ s.rooms.length ∧ (s.rooms.drop k).all roomB = s.rooms.all roomB) (fun k => [(26, .int .i64 k)]) (fun k => s.rooms.length - k) 0 (⟨Nat.zero_le _, rfl⟩) ⟨rfl, rfl, rfl, rfl, trivial⟩ ?_
    rintro k ⟨hk, hsk⟩
    dsimp only [List.cons_append, List.nil_append]
    refine cj_seq ?_
    refine cj_regionG (gj_step (y_lss rfl rfl) rfl rfl rfl (gj_nil ?_))
    refine ej_th (cj_seq ?_)
    refine cj_cond rfl (fun h27 => ?_) (fun h27 => ?_)
    · have h27b := h27
      try simp only [sxb] at h27
      obtain ⟨r, hr⟩ : ∃ r, s.rooms[k]? = some r := ⟨_, List.getElem?_eq_getElem (by omega)⟩
      rw [all_drop roomB s.rooms k r hr] at hsk
      refine cj_skip (ej_th (cj_seq (cj_block (cj_seq (cj_region ?_)))))
      refine oj_step (y_ixR (reads_sl) Tryz.underlying199 Tryz.sizeOf198 rfl rfl (⟨by omega, by omega⟩)) rfl rfl rfl ?_
      refine oj_step (y_ldW (reads_sl) Tryz.isAgg198 Tryz.sizeOf198 rfl (hr) (fun _ => rfl)) rfl rfl rfl ?_
      refine oj_alloc Tryz.zeroValue198 rfl rfl (fun b4 => ?_)
      refine oj_store rfl rfl rfl rfl Tryz.sizeOf198 rfl ?_
      refine oj_nil ?_
      refine ej_th (cj_seq ?_)
      refine cj_regionG ?_
      refine gj_step (y_fa0 fa198_0 rfl) rfl rfl rfl (gj_step (y_load1 Tryz.isAgg3 rfl rfl) rfl rfl rfl (?_))
      refine gj_step (y_call Tryz.call167 rfl (fun w hp => k_within _ _ _ w)) rfl rfl rfl ?_
      refine gj_step (y_not rfl) rfl rfl rfl (gj_step (y_move rfl) rfl rfl rfl (?_))
      refine gj_g 4 34 38 rfl rfl rfl rfl (fun hg34 => gj_yes rfl rfl rfl (y_fa fa198_1 rfl) rfl rfl (gj_yes rfl rfl rfl (y_load1 Tryz.isAgg3 rfl rfl) rfl rfl (gj_yes rfl rfl rfl (y_call Tryz.call167 rfl (fun w hp => k_within _ _ _ w)) rfl rfl (gj_yes rfl rfl rfl (y_not rfl) rfl rfl (gj_nil rfl))))) ?_
      refine gj_step (y_or rfl rfl rfl) rfl rfl rfl (gj_step (y_move rfl) rfl rfl rfl (?_))
      refine gj_g 4 40 44 rfl rfl rfl rfl (fun hg40 => gj_yes rfl rfl rfl (y_fa fa198_2 rfl) rfl rfl (gj_yes rfl rfl rfl (y_load1 Tryz.isAgg3 rfl rfl) rfl rfl (gj_yes rfl rfl rfl (y_call Tryz.call149 rfl (fun w hp => k_set _ 8 w (by omega))) rfl rfl (gj_yes rfl rfl rfl (y_not rfl) rfl rfl (gj_nil rfl))))) ?_
      refine gj_step (y_or rfl rfl rfl) rfl rfl rfl (?_)
      refine gj_nil ?_
      refine ej_th ?_
      refine cj_cond rfl (fun h45 => ?_) (fun h45 => ?_)
      · have h45b := h45
        try simp only [sxb] at h45
        rw [room_V] at h45b
        refine cj_seq ?_
        refine cj_regionG (gj_step (y_assign rfl) rfl rfl rfl (gj_nil ?_))
        refine ej_th (cj_ret (ej_blk_ret (ej_then_ret (ej_then_ret (ej_blk_ret (ej_then_ret ?_))))))
        refine ej_ret1 rfl Tryz.results148 rfl (fun w' hp => ⟨?_, hp.below⟩)
        rw [str_noR]
        rw [← hsk, not_t h45b]; rfl
      · have h45b := h45
        try simp only [sxb] at h45
        rw [room_V] at h45b
        refine cj_skip (ej_blk (ej_th ?_))
        refine cj_regionG (gj_step (y_add rfl rfl (by omega)) rfl rfl rfl (gj_step (y_move rfl) rfl rfl rfl (gj_nil ?_)))
        exact ej_nx (k + 1) (by omega) ⟨by omega, by rw [← hsk, not_f h45b, Bool.true_and]⟩ ⟨rfl, rfl, rfl, rfl, trivial⟩
    · have h27b := h27
      try simp only [sxb] at h27
      refine cj_exit (ej_then_exit (ej_then_exit (ej_blk_hit (ej_th (cj_seq (cj_seq ?_))))))
      refine cj_regionG ?_
      refine gj_step (y_fa fa204_2 rfl) rfl rfl rfl (gj_step (y_load1 Tryz.isAgg26 rfl rfl) rfl rfl rfl (?_))
      refine gj_step (y_call Tryz.call110 rfl (fun w hp => k_ContI (s.staff) s.As s.cs 168 #[] (fun n => !(btw 0 n 255)) w hp.rd Tryz.call168 (fun x hx w1 hg => k_ck1 x w1))) rfl rfl rfl ?_
      refine gj_step (y_move rfl) rfl rfl rfl (?_)
      refine gj_g 4 50 54 rfl rfl rfl rfl (fun hg50 => gj_yes rfl rfl rfl (y_fa fa204_1 rfl) rfl rfl (gj_yes rfl rfl rfl (y_load1 Tryz.isAgg202 rfl rfl) rfl rfl (gj_yes rfl rfl rfl (y_makeFunc rfl rfl) rfl rfl (gj_yes rfl rfl rfl (y_call Tryz.call169 rfl (fun w hp => k_ContG s.gates s.Ag s.cg 170 #[.pointer (some ⟨b1, 0, none⟩)] (fun g => !(gateB s.rooms.length g.n)) w hp.rd Tryz.call170 (fun x hx w1 hg => k_ck2 s x b1 w1 (by omega) ((hs.ways x hx).mono (grow_trans hp.below hg)) ((hp.grow hg).own1)))) rfl rfl (gj_nil rfl))))) ?_
      refine gj_step (y_or rfl rfl rfl) rfl rfl rfl (?_)
      refine gj_nil ?_
      refine ej_th ?_
      refine cj_cond rfl (fun h55 => ?_) (fun h55 => ?_)
      · have h55b := h55
        try simp only [sxb] at h55
        rw [any_not, any_not] at h55b
        refine cj_seq ?_
        refine cj_regionG (gj_step (y_assign rfl) rfl rfl rfl (gj_nil ?_))
        refine ej_th (cj_ret (ej_then_ret ?_))
        refine ej_ret1 rfl Tryz.results148 rfl (fun w' hp => ⟨?_, hp.below⟩)
        cases hA : (s.staff.all fun n => btw 0 n 255) with
        | false => rw [str_noS hA]
        | true =>
          cases hB : (s.gates.all fun g => gateB s.rooms.length g.n) with
          | false => rw [str_noG hB]
          | true => rw [hA, hB] at h55b; cases h55b
      · have h55b := h55
        try simp only [sxb] at h55
        rw [any_not, any_not] at h55b
        refine cj_skip (ej_th (cj_seq ?_))
        refine cj_regionG (gj_step (y_assign rfl) rfl rfl rfl (gj_nil ?_))
        refine ej_th (cj_ret ?_)
        refine ej_ret1 rfl Tryz.results148 rfl (fun w' hp => ⟨?_, hp.below⟩)
        rw [Bool.or_eq_false_iff] at h55b
        rw [str_yes (not_f h22b) (by rw [← hsk, List.drop_of_length_le (by omega)]; rfl) (not_f h55b.1) (not_f h55b.2)]

end Go.Proofs.YtppfniekcgnmjaaGreatDoor.Va
namespace Go.Proofs.YtppfniekcgnmjaaGreatDoor.Va
open Go.Sx Go.RowKit Vm
set_option maxRecDepth 20000
def oc1 (x : Int) : Int := IntKind.u64.wrap (bits .and .u64 (x / 2) 6148914691236517205 + bits .and .u64 x 6148914691236517205)
def oc2 (x : Int) : Int := IntKind.u64.wrap (bits .and .u64 (x / 4) 3689348814741910323 + bits .and .u64 x 3689348814741910323)
def oc3 (x : Int) : Int := bits .and .u64 (IntKind.u64.wrap (x / 16 + x)) 1085102592571150095
def oc4 (x : Int) : Int := IntKind.u64.wrap (x + x / 256)
def oc5 (x : Int) : Int := IntKind.u64.wrap (x + x / 65536)
def oc6 (x : Int) : Int := IntKind.u64.wrap (x + x / 4294967296)
def oc (x : Int) : Int := bits .and .i64 (wrap64 (oc6 (oc5 (oc4 (oc3 (oc2 (oc1 x))))))) 127
theorem oc_eq : ∀ n : Fin 256, oc (n.val : Int) = (popc n.val : Int) := by decide +kernel
set_option maxHeartbeats 1000000 in
theorem k_oc64 (x : Int) (w : World) : Calls Tryz.prog 202 #[.int .u64 x] w (fun e w' => e = .returned (.int .i64 (oc x)) ∧ w' = w) := by
  go_enter Tryz.func202, Tryz.ntmps202
  go_wp2
  go_ret
  refine ⟨?_, rfl⟩
  refine congrArg (fun v => Ending.returned (.int .i64 v)) (?_ : _ = oc x)
  generalize h1 : IntKind.u64.wrap (bits .and .u64 (x / 2) 6148914691236517205 + bits .and .u64 x 6148914691236517205) = x1
  generalize h2 : IntKind.u64.wrap (bits .and .u64 (x1 / 4) 3689348814741910323 + bits .and .u64 x1 3689348814741910323) = x2
  generalize h3 : bits .and .u64 (IntKind.u64.wrap (x2 / 16 + x2)) 1085102592571150095 = x3
  subst h3; subst h2; subst h1
  rfl
theorem k_oc (x : Int) (w : World) : Calls Tryz.prog 192 #[.int .u64 x] w (fun e w' => e = .returned (.int .i64 (oc x)) ∧ w' = w) := by
  go_enter Tryz.func192, Tryz.ntmps192
  go_wp2_with (go_at_call 202; refine (k_oc64 _ _).mono ?_; rintro e w' ⟨rfl, rfl⟩)
  go_ret
  exact ⟨rfl, rfl⟩
theorem k_ocN (n : Nat) (hn : n < 256) (w : World) : Calls Tryz.prog 192 #[.int .u64 n] w (fun e w' => e = .returned (.int .i64 (popc n)) ∧ w' = w) := by
  have h := k_oc (n : Int) w
  rw [show oc (n : Int) = (popc n : Int) from oc_eq ⟨n, hn⟩] at h
  exact h
end Go.Proofs.YtppfniekcgnmjaaGreatDoor.Va
namespace Go.Proofs.YtppfniekcgnmjaaGreatDoor.Va
open Go.Sx Go.RowKit
set_option maxRecDepth 20000
theorem fa250_1 : FieldIs Tryz.prog 250 1 3 1 false := ⟨⟨_, _, Tryz.underlying250, rfl, rfl, Tryz.sizeOf3, Tryz.isAgg3, by decide⟩⟩
end Go.Proofs.YtppfniekcgnmjaaGreatDoor.Va
namespace Go.Proofs.YtppfniekcgnmjaaGreatDoor.Va
open Go.Sx Go.RowKit Vm
set_option maxRecDepth 20000
theorem k_inside1 (s : StrV) (n r bt br : Nat) (hr6 : s.rooms.length ≤ 6) (hr : r ≤ 4611686018427387904) : IterX Tryz.prog 207 #[.pointer (some ⟨bt, 0, none⟩), .pointer (some ⟨br, 0, none⟩)] (fun p : Nat => [.int .i64 (p : Nat)]) (insF r s.rooms.length 0) [ownB bt (cellsB 250 [.slice s.Ar s.rooms.length s.cr, .slice s.Ag s.gates.length s.cg, .slice s.As s.staff.length s.cs, .int .i64 (n : Nat)]), ownB br (cellsB 3 [.int .i64 (r : Nat)])] := by
  intro l J Jx w hgr hadd hdrop hfacts hgrx hdrx hfx hround hJ0
  refine enter_pure (args := [.func (.yield l) #[] #[], .pointer (some ⟨bt, 0, none⟩), .pointer (some ⟨br, 0, none⟩)]) [ownB bt (cellsB 250 [.slice s.Ar s.rooms.length s.cr, .slice s.Ag s.gates.length s.cg, .slice s.As s.staff.length s.cs, .int .i64 (n : Nat)]), ownB br (cellsB 3 [.int .i64 (r : Nat)])] Tryz.func207 rfl (by rw [Tryz.ntmps207]; simp) (fun g hg => hfacts [] 0 w hJ0 g (List.mem_append_left _ hg)) ?_
  refine cj_seq ?_
  refine cj_regionG (gj_step (y_fa0 fa250_0 rfl) rfl rfl rfl (gj_step (y_fa0 fa204_0 rfl) rfl rfl rfl (gj_step (y_loadS1 Tryz.isAgg199 rfl rfl) rfl rfl rfl (gj_step (y_lenA Tryz.underlying199 rfl) rfl rfl rfl (gj_step (y_move rfl) rfl rfl rfl (gj_nil ?_))))))
  refine ej_th (cj_block ?_)
  refine cj_loopB (X := Nat × Nat) (fun ⟨k, i⟩ => k ≤ (insF r s.rooms.length 0).length ∧ i ≤ s.rooms.length ∧ (insF r s.rooms.length 0).drop k = insF r (s.rooms.length - i) i) (fun ⟨k, i⟩ => [(0, .func (.yield l) #[] #[]), (1, .pointer (some ⟨bt, 0, none⟩)), (2, .pointer (some ⟨br, 0, none⟩)), (8, .int .i64 (s.rooms.length : Nat)), (9, .int .i64 (i : Nat))]) (fun ⟨k, i⟩ => fun W => J [] k W) [ownB bt (cellsB 250 [.slice s.Ar s.rooms.length s.cr, .slice s.Ag s.gates.length s.cg, .slice s.As s.staff.length s.cs, .int .i64 (n : Nat)]), ownB br (cellsB 3 [.int .i64 (r : Nat)])] (fun ⟨k, i⟩ => s.rooms.length - i) (0, 0) (⟨Nat.zero_le _, Nat.zero_le _, rfl⟩) ⟨rfl, rfl, rfl, rfl, rfl, trivial⟩ (fun w1 hp => hgr _ _ _ _ hJ0 hp.below) (fun x W h g hg => hfacts [] _ W h g (List.mem_append_left _ hg)) ?_
  rintro ⟨k, i⟩ W ⟨hk, hi, hsk⟩ hJW
  refine cj_seq ?_
  refine cj_regionG (gj_step (y_lss rfl rfl) rfl rfl rfl (gj_nil ?_))
  refine ej_th (cj_seq ?_)
  refine cj_cond rfl (fun h10 => ?_) (fun h10 => ?_)
  · have h10b := h10
    try simp only [sxb] at h10
    have hpi := pow_bd (k := i) (n := 6) (by omega) (by omega)
    refine cj_skip (ej_th (cj_seq (cj_block (cj_seq ?_))))
    refine cj_regionG (gj_step (y_move rfl) rfl rfl rfl (gj_step (y_assign rfl) rfl rfl rfl (gj_nil ?_)))
    refine ej_th (cj_seq ?_)
    refine cj_plan 10 (by kernel_rfl) (by kernel_rfl) ?_
    refine pl_y 0 rfl (y_loadS1 Tryz.isAgg3 rfl rfl) rfl rfl rfl rfl (by kernel_rfl) ?_
    refine pl_y 1 rfl (y_move rfl) rfl rfl rfl rfl (by kernel_rfl) ?_
    refine pl_y 2 rfl (y_shl1 rfl rfl (by omega)) rfl rfl rfl rfl (by kernel_rfl) ?_
    refine pl_y 3 rfl (y_call Tryz.call172 rfl (fun w hp => k_has r (2 ^ i) w (by omega) (by omega))) rfl rfl rfl rfl (by kernel_rfl) ?_
    refine pl_y 4 rfl (y_move rfl) rfl rfl rfl rfl (by kernel_rfl) ?_
    refine pl_case 16 rfl (fun hg16 => ?_) (fun hg16 => ?_)
    · have hbi := hg16
      rw [hasN_bit] at hbi
      obtain ⟨hget, hdn⟩ := ins_get (by omega) hbi hsk
      have hkl := (List.getElem?_eq_some_iff.1 hget).1
      refine pl_yY 5 rfl rfl rfl rfl hg16 (y_move rfl) rfl rfl rfl (by kernel_rfl) ?_
      refine pl_yY 6 rfl rfl rfl rfl hg16 (y_move rfl) rfl rfl rfl (by kernel_rfl) ?_
      refine pl_w1 7 (by kernel_rfl) rfl rfl (pl_fireG rfl rfl rfl rfl hg16 rfl (by kernel_rfl) ?_)
      refine oj_yesE rfl rfl rfl hg16 ?_
      refine oj_yieldB (T := TB J Jx (k + 1)) [ownB bt (cellsB 250 [.slice s.Ar s.rooms.length s.cr, .slice s.Ag s.gates.length s.cg, .slice s.As s.staff.length s.cs, .int .i64 (n : Nat)]), ownB br (cellsB 3 [.int .i64 (r : Nat)])] rfl rfl rfl (fun w1 hp => hround [] k i w1 hget (hgr _ _ _ _ hJW hp.below)) rfl (fun b W h g hg => ?_) (fun b19 W19 hT19 => ?_)
      · cases b with
        | true => exact hfacts [] _ W h g (List.mem_append_left _ hg)
        | false => exact hfx [] _ W h g (List.mem_append_left _ hg)
      rotate_left
      refine oj_nil ?_
      refine ej_plB (lt_w (by kernel_rfl) (lt_w (by kernel_rfl) (lt_w (by kernel_rfl) (lt_y (y_call Tryz.call172 rfl (fun w hp => k_has r (2 ^ i) w (by omega) (by omega))) rfl (lt_y (y_shl1 rfl rfl (by omega)) rfl (lt_y (y_move rfl) rfl (lt_y (y_loadS1 Tryz.isAgg3 rfl rfl) rfl (lt_nil)))))))) ?_
      refine pl_yY 8 rfl rfl rfl rfl hg16 (y_not rfl) rfl rfl rfl (by kernel_rfl) ?_
      refine pl_y 9 rfl (y_pickT rfl hg16 rfl) rfl rfl rfl rfl (by kernel_rfl) ?_
      refine pl_end (by kernel_rfl) ?_
      refine ej_th ?_
      refine cj_cond rfl (fun h21 => ?_) (fun h21 => ?_)
      · have h21b := h21
        try simp only [sxb] at h21
        have hb19 : b19 = false := not_t h21b
        subst hb19
        refine cj_ret (ej_blk_ret (ej_then_ret (ej_then_ret (ej_blk_ret ?_))))
        first
          | exact ej_ret0 rfl Tryz.results207 (fun w' hp => ⟨⟨_, rfl⟩, .inr ⟨k + 1, hgrx _ _ _ _ hT19 hp.below⟩⟩)
          | exact ej_end0 rfl Tryz.results207 (fun w' hp => ⟨⟨_, rfl⟩, .inl (hgr _ _ _ _ hJW hp.below)⟩)
      · have h21b := h21
        try simp only [sxb] at h21
        first
          | (have hb19 : b19 = true := not_f h21b
             subst hb19
             have hJ2 : J [] (k + 1) W19 := hT19)
          | skip
        refine cj_skip (ej_blk (ej_th ?_))
        refine cj_regionG (gj_step (y_add rfl rfl (by omega)) rfl rfl rfl (gj_step (y_move rfl) rfl rfl rfl (gj_nil ?_)))
        rw [show ((i : Nat) : Int) + 1 = ((i + 1 : Nat) : Int) by omega]
        first
          | exact ej_nxB (k + 1, i + 1) (by first | omega | (simp only; omega)) ⟨by first | omega | (simp only; omega), by first | omega | (simp only; omega), hdn⟩ ⟨rfl, rfl, rfl, rfl, rfl, trivial⟩ (fun w1 hg => hgr _ _ _ _ hJ2 hg)
          | exact ej_nxB (k, i + 1) (by first | omega | (simp only; omega)) ⟨by first | omega | (simp only; omega), by first | omega | (simp only; omega), hdn⟩ ⟨rfl, rfl, rfl, rfl, rfl, trivial⟩ (fun w1 hg => hgr _ _ _ _ hJW hg)
    · have hbi := hg16
      rw [hasN_bit] at hbi
      have hdn := ins_skip (by omega) hbi hsk
      refine pl_yN 5 rfl rfl rfl rfl hg16 rfl rfl rfl (by kernel_rfl) ?_
      refine pl_yN 6 rfl rfl rfl rfl hg16 rfl rfl rfl (by kernel_rfl) ?_
      refine pl_yN 7 rfl rfl rfl rfl hg16 rfl rfl rfl (by kernel_rfl) ?_
      refine pl_yN 8 rfl rfl rfl rfl hg16 rfl rfl rfl (by kernel_rfl) ?_
      refine pl_y 9 rfl (y_pickF rfl hg16 rfl) rfl rfl rfl rfl (by kernel_rfl) ?_
      refine pl_end (by kernel_rfl) ?_
      refine ej_th ?_
      refine cj_cond rfl (fun h21 => ?_) (fun h21 => ?_)
      · cases h21
      · have h21b := h21
        try simp only [sxb] at h21
        first
          | (have hb19 : b19 = true := not_f h21b
             subst hb19
             have hJ2 : J [] (k + 1) W19 := hT19)
          | skip
        refine cj_skip (ej_blk (ej_th ?_))
        refine cj_regionG (gj_step (y_add rfl rfl (by omega)) rfl rfl rfl (gj_step (y_move rfl) rfl rfl rfl (gj_nil ?_)))
        rw [show ((i : Nat) : Int) + 1 = ((i + 1 : Nat) : Int) by omega]
        first
          | exact ej_nxB (k + 1, i + 1) (by first | omega | (simp only; omega)) ⟨by first | omega | (simp only; omega), by first | omega | (simp only; omega), hdn⟩ ⟨rfl, rfl, rfl, rfl, rfl, trivial⟩ (fun w1 hg => hgr _ _ _ _ hJ2 hg)
          | exact ej_nxB (k, i + 1) (by first | omega | (simp only; omega)) ⟨by first | omega | (simp only; omega), by first | omega | (simp only; omega), hdn⟩ ⟨rfl, rfl, rfl, rfl, rfl, trivial⟩ (fun w1 hg => hgr _ _ _ _ hJW hg)
  · have h10b := h10
    try simp only [sxb] at h10
    have hke : i = s.rooms.length := by omega
    subst hke
    rw [Nat.sub_self] at hsk
    have hkx : k = (insF r s.rooms.length 0).length := by
      have h9 := congrArg List.length hsk
      rw [List.length_drop] at h9
      have h8 : (insF r 0 s.rooms.length).length = 0 := rfl
      omega
    subst hkx
    refine cj_exit (ej_then_exit (ej_then_exit (ej_blk_hit ?_)))
    first
      | exact ej_ret0 rfl Tryz.results207 (fun w' hp => ⟨⟨_, rfl⟩, .inr ⟨k + 1, hgrx _ _ _ _ hT19 hp.below⟩⟩)
      | exact ej_end0 rfl Tryz.results207 (fun w' hp => ⟨⟨_, rfl⟩, .inl (hgr _ _ _ _ hJW hp.below)⟩)

theorem k_inside (s : StrV) (n r : Nat) (w : World)  : Calls Tryz.prog 203 #[.agg #[.slice s.Ar s.rooms.length s.cr, .slice s.Ag s.gates.length s.cg, .slice s.As s.staff.length s.cs, .int .i64 (n : Nat)], .int .i64 (r : Nat)] w (fun e w' => ∃ x : Nat × Nat, e = .returned (.func (.func 207) #[] #[.pointer (some ⟨x.1, 0, none⟩), .pointer (some ⟨x.2, 0, none⟩)]) ∧ Grow w w' ∧ (∀ g ∈ ([] : List Fact), g.P w' ∧ ∀ b, g.fp b → w.heap.size ≤ b ∧ b < w'.heap.size) ∧ ([] : List Fact).Pairwise (fun f g => ∀ b, f.fp b → ¬ g.fp b) ∧ (∀ g ∈ [ownB x.1 (cellsB 250 [.slice s.Ar s.rooms.length s.cr, .slice s.Ag s.gates.length s.cg, .slice s.As s.staff.length s.cs, .int .i64 (n : Nat)]), ownB x.2 (cellsB 3 [.int .i64 (r : Nat)])], g.P w' ∧ ∀ b, g.fp b → w.heap.size ≤ b ∧ b < w'.heap.size ∧ ∀ o ∈ ([] : List Fact), ¬ o.fp b)) := by
  refine enter_pure (args := [.agg #[.slice s.Ar s.rooms.length s.cr, .slice s.Ag s.gates.length s.cg, .slice s.As s.staff.length s.cs, .int .i64 (n : Nat)], .int .i64 (r : Nat)]) [] Tryz.func203 rfl (by rw [Tryz.ntmps203]; simp) (by simp) ?_
  refine cj_seq (cj_region ?_)
  refine oj_box rfl rfl rfl (fun b2 => ?_)
  refine oj_box rfl rfl rfl (fun b3 => ?_)
  refine oj_step (y_assign rfl) rfl rfl rfl ?_
  refine oj_nil ?_
  refine ej_th (cj_seq ?_)
  refine cj_regionG (gj_step (y_makeFunc rfl rfl) rfl rfl rfl (gj_step (y_assign rfl) rfl rfl rfl (gj_nil ?_)))
  refine ej_th (cj_ret ?_)
  exact ej_ret1 rfl Tryz.results203 rfl (fun w' hp => ⟨(b2, b3), rfl, hp.below, by simp, List.Pairwise.nil, fun g hg => by
    have hm : g ∈ [ownB b3 (cellsB 3 [.int .i64 (r : Nat)]), ownB b2 (cellsB 250 [.slice s.Ar s.rooms.length s.cr, .slice s.Ag s.gates.length s.cg, .slice s.As s.staff.length s.cs, .int .i64 (n : Nat)])] := by
      simp only [List.mem_cons, List.mem_nil_iff, or_false] at hg ⊢
      exact hg.symm
    exact ⟨(hp.own g hm).1, fun b hb => ⟨Nat.le_of_not_lt ((hp.own g hm).2 b hb).2, ((hp.own g hm).2 b hb).1, by simp⟩⟩⟩)

theorem k_keys (s : StrV) (n r : Nat) (w : World) (hs : StrRd w s) (hok : StrOk s) (hn : n < 64) (hr : r < 64) : Calls Tryz.prog 194 #[.agg #[.slice s.Ar s.rooms.length s.cr, .slice s.Ag s.gates.length s.cg, .slice s.As s.staff.length s.cs, .int .i64 (n : Nat)], .int .i64 (r : Nat)] w (fun e w' => e = .returned (.int .i64 (keysN s.s n r : Nat)) ∧ Grow w w') := by
  have hns := hok.ns
  have hnr := hok.nr
  refine enter_pureM (args := [.agg #[.slice s.Ar s.rooms.length s.cr, .slice s.Ag s.gates.length s.cg, .slice s.As s.staff.length s.cs, .int .i64 (n : Nat)], .int .i64 (r : Nat)]) [sl (fun b => b < w.heap.size) 3 encRo s.Ar s.rooms, sl (fun b => b < w.heap.size) 4 encGa s.Ag s.gates, sl (fun b => b < w.heap.size) 1 enInt s.As s.staff] Tryz.func194 rfl (by rw [Tryz.ntmps194]; simp) (fun g hg => by simp at hg; rcases hg with rfl | rfl | rfl; exact ⟨hs.rooms, fun _ h => h⟩; exact ⟨hs.gates, fun _ h => h⟩; exact ⟨hs.staff, fun _ h => h⟩) ?_
  refine cj_seq (cj_region ?_)
  refine oj_box rfl rfl rfl (fun b2 => ?_)
  refine oj_step (y_assign rfl) rfl rfl rfl ?_
  refine oj_nil ?_
  refine ej_th (cj_seq (cj_region ?_))
  refine oj_alloc Tryz.zeroValue3 rfl rfl (fun b5 => ?_)
  refine oj_store rfl rfl rfl rfl Tryz.sizeOf3 rfl ?_
  refine oj_nil ?_
  refine ej_th (cj_seq (cj_seq ?_))
  refine cj_regionG (gj_step (y_fa0 fa250_0 rfl) rfl rfl rfl (gj_step (y_fa fa204_2 rfl) rfl rfl rfl (gj_step (y_load1 Tryz.isAgg26 rfl rfl) rfl rfl rfl (gj_step (y_lenA Tryz.underlying26 rfl) rfl rfl rfl (gj_step (y_move rfl) rfl rfl rfl (gj_nil ?_))))))
  refine ej_th (cj_block ?_)
  refine cj_lpi (X := Nat × Nat) [(1, _), (2, _), (4, _), (5, _), (11, _), (12, _)] (fun ⟨k, acc⟩ => k ≤ s.staff.length ∧ acc < 256 ∧ keyF n k (s.staff.drop k) acc = keyF n 0 s.staff 0) (fun ⟨k, acc⟩ => [(13, .int .i64 (k : Nat))]) (fun ⟨k, acc⟩ => [ownB b5 (cellsB 3 [.int .i64 (acc : Nat)]), ownB b2 (cellsB 250 [.slice s.Ar s.rooms.length s.cr, .slice s.Ag s.gates.length s.cg, .slice s.As s.staff.length s.cs, .int .i64 (n : Nat)])]) (fun ⟨k, acc⟩ => [sl (fun b => b < w.heap.size) 3 encRo s.Ar s.rooms, sl (fun b => b < w.heap.size) 4 encGa s.Ag s.gates, sl (fun b => b < w.heap.size) 1 enInt s.As s.staff]) (fun ⟨k, acc⟩ => s.staff.length - k) (0, 0) (⟨Nat.zero_le _, by omega, rfl⟩) ⟨rfl, rfl, rfl, rfl, rfl, rfl, rfl, trivial⟩ ?_
  rintro ⟨k, acc⟩ ⟨hk, hacc, hsk⟩
  dsimp only [List.cons_append, List.nil_append]
  refine cj_seq ?_
  refine cj_regionG (gj_step (y_lss rfl rfl) rfl rfl rfl (gj_nil ?_))
  refine ej_th (cj_seq ?_)
  refine cj_cond rfl (fun h14 => ?_) (fun h14 => ?_)
  · have h14b := h14
    try simp only [sxb] at h14
    have hpi := pow_bd (k := k) (n := 6) (by omega) (by omega)
    obtain ⟨x, hx⟩ : ∃ x, s.staff[k]? = some x := ⟨_, List.getElem?_eq_getElem (by omega)⟩
    have hxb := hok.staff x (List.mem_of_getElem? hx)
    obtain ⟨m, rfl⟩ : ∃ m : Nat, x = m := ⟨x.toNat, by omega⟩
    rw [keyF_drop n s.staff k acc _ hx, Int.toNat_natCast] at hsk
    refine cj_skip (ej_th (cj_seq (cj_block (cj_seq ?_))))
    refine cj_regionG (gj_step (y_move rfl) rfl rfl rfl (gj_step (y_ixR (reads_sl) Tryz.underlying26 Tryz.sizeOf3 rfl rfl (⟨by omega, by omega⟩)) rfl rfl rfl (gj_step (y_ld0 (reads_sl) Tryz.isAgg3 rfl (hx) rfl) rfl rfl rfl (gj_step (y_assign rfl) rfl rfl rfl (gj_step (y_assign rfl) rfl rfl rfl (gj_nil ?_))))))
    refine ej_th (cj_seq ?_)
    refine cj_draw (by kernel_rfl) (by kernel_rfl) ?_
    refine gj_step (y_fa fa250_1 rfl) rfl rfl rfl (gj_step (y_load1 Tryz.isAgg3 rfl rfl) rfl rfl rfl (gj_step (y_move rfl) rfl rfl rfl (gj_step (y_shl1 rfl rfl (by omega)) rfl rfl rfl (?_))))
    refine gj_step (y_call Tryz.call172 rfl (fun w hp => k_has n (2 ^ k) w (by omega) (by omega))) rfl rfl rfl ?_
    refine gj_nil ?_
    refine ej_th ?_
    refine cj_cond rfl (fun h22 => ?_) (fun h22 => ?_)
    · have h22b := h22
      try simp only [sxb] at h22
      rw [hasN_bit] at h22b
      rw [if_pos h22b] at hsk
      refine cj_region ?_
      refine oj_step (y_load1 Tryz.isAgg3 rfl rfl) rfl rfl rfl ?_
      refine oj_step (y_move rfl) rfl rfl rfl ?_
      refine oj_step (y_orN rfl rfl (by omega) (by omega)) rfl rfl rfl ?_
      refine oj_store rfl rfl rfl rfl Tryz.sizeOf3 rfl ?_
      refine oj_nil ?_
      refine ej_blk (ej_th ?_)
      refine cj_regionG (gj_step (y_add rfl rfl (by omega)) rfl rfl rfl (gj_step (y_move rfl) rfl rfl rfl (gj_nil ?_)))
      exact ej_nx (k + 1, acc ||| m) (by first | omega | (simp only; omega)) ⟨by first | omega | (simp only; omega), or256 hacc (by omega), hsk⟩ ⟨rfl, rfl, rfl, rfl, rfl, rfl, rfl, trivial⟩
    · have h22b := h22
      try simp only [sxb] at h22
      rw [hasN_bit] at h22b
      rw [if_neg (by rw [h22b]; simp)] at hsk
      refine cj_skip (ej_blk (ej_th ?_))
      refine cj_regionG (gj_step (y_add rfl rfl (by omega)) rfl rfl rfl (gj_step (y_move rfl) rfl rfl rfl (gj_nil ?_)))
      exact ej_nx (k + 1, acc) (by first | omega | (simp only; omega)) ⟨by first | omega | (simp only; omega), hacc, hsk⟩ ⟨rfl, rfl, rfl, rfl, rfl, rfl, rfl, trivial⟩
  · have h14b := h14
    try simp only [sxb] at h14
    rw [List.drop_of_length_le (by omega)] at hsk
    have hsk2 : acc = keyF n 0 s.staff 0 := hsk
    clear hsk
    subst hsk2
    have hK := keys_ins s n r
    refine cj_exit (ej_then_exit (ej_then_exit (ej_blk_hit (ej_th (cj_seq (cj_seq (cj_region ?_)))))))
    refine oj_step (y_loadN Tryz.isAgg250 Tryz.sizeOf250 rfl) rfl rfl rfl ?_
    refine oj_step (y_move rfl) rfl rfl rfl ?_
    refine oj_call (X := Nat × Nat) (fun z => .func (.func 207) #[] #[.pointer (some ⟨z.1, 0, none⟩), .pointer (some ⟨z.2, 0, none⟩)]) (fun _ => []) (fun z => [ownB z.1 (cellsB 250 [.slice s.Ar s.rooms.length s.cr, .slice s.Ag s.gates.length s.cg, .slice s.As s.staff.length s.cs, .int .i64 (n : Nat)]), ownB z.2 (cellsB 3 [.int .i64 (r : Nat)])]) Tryz.call203 rfl (fun w hp => k_inside s n r w) rfl ?_
    rintro ⟨bt, br⟩
    dsimp only [List.nil_append, List.cons_append]
    refine oj_nil ?_
    refine ej_th (cj_block ?_)
    refine cj_rangeX (k_inside1 s n r bt br (by omega) (by omega)) (Y := Nat) (Z := Empty) (fun k y => y < 256 ∧ ((insF r s.rooms.length 0).drop k).foldl (orK s) y = keysN s.s n r) (fun _ y => [ownB b5 (cellsB 3 [.int .i64 (y : Nat)]), ownB b2 (cellsB 250 [.slice s.Ar s.rooms.length s.cr, .slice s.Ag s.gates.length s.cg, .slice s.As s.staff.length s.cs, .int .i64 (n : Nat)])]) Empty.elim Empty.elim (keyF n 0 s.staff 0) ⟨hacc, by rw [hK]; rfl⟩ rfl Tryz.call207 (fun _ => rfl) rfl ?_ ?_ ?_
    · rintro Xs lo Db r0 r1 k p y hp9 ⟨hy256, hy⟩
      have hp6 := insF_mem _ _ _ _ (List.mem_of_getElem? hp9)
      obtain ⟨rm, hrm⟩ : ∃ rm, s.rooms[p]? = some rm := ⟨_, List.getElem?_eq_getElem (by omega)⟩
      have hrb := (hok.room rm (List.mem_of_getElem? hrm)).2.2
      obtain ⟨hd, cl, ky⟩ := rm
      obtain ⟨m, rfl⟩ : ∃ m : Nat, ky = m := ⟨ky.toNat, by simp only at hrb; omega⟩
      simp only at hrb
      rw [get_drop hp9, List.foldl_cons, show orK s y p = y ||| m by unfold orK; rw [roomKey_get hrm, Int.toNat_natCast]] at hy
      dsimp only [List.cons_append, List.nil_append]
      refine cj_regionG (gj_step (y_assign rfl) rfl rfl rfl (gj_nil ?_))
      refine ej_beg (cj_block ?_)
      refine cj_plan 10 (by kernel_rfl) (by kernel_rfl) ?_
      refine pl_y 0 rfl (y_load1 Tryz.isAgg3 rfl rfl) rfl rfl rfl rfl (by kernel_rfl) ?_
      refine pl_y 1 rfl (y_fa0 fa250_0 rfl) rfl rfl rfl rfl (by kernel_rfl) ?_
      refine pl_y 2 rfl (y_fa0 fa204_0 rfl) rfl rfl rfl rfl (by kernel_rfl) ?_
      refine pl_y 3 rfl (y_load1 Tryz.isAgg199 rfl rfl) rfl rfl rfl rfl (by kernel_rfl) ?_
      refine pl_y 4 rfl (y_move rfl) rfl rfl rfl rfl (by kernel_rfl) ?_
      refine pl_y 5 rfl (y_ixR (reads_sl) Tryz.underlying199 Tryz.sizeOf198 rfl rfl (⟨by omega, by omega⟩)) rfl rfl rfl rfl (by kernel_rfl) ?_
      refine pl_y 6 rfl (y_faE fa198_2 rfl) rfl rfl rfl rfl (by kernel_rfl) ?_
      refine pl_y 7 rfl (y_ld1 (reads_sl) Tryz.isAgg3 rfl (hrm) rfl) rfl rfl rfl rfl (by kernel_rfl) ?_
      refine pl_y 8 rfl (y_orN rfl rfl (by omega) (by omega)) rfl rfl rfl rfl (by kernel_rfl) ?_
      refine pl_w1 9 (by kernel_rfl) rfl rfl (pl_fire rfl rfl rfl (by kernel_rfl) ?_)
      refine oj_store rfl rfl rfl rfl Tryz.sizeOf3 rfl ?_
      refine oj_nil ?_
      refine ej_pl (lt_w (by kernel_rfl) (lt_w (by kernel_rfl) (lt_w (by kernel_rfl) (lt_w (by kernel_rfl) (lt_w (by kernel_rfl) (lt_w (by kernel_rfl) (lt_w (by kernel_rfl) (lt_w (by kernel_rfl) (lt_w (by kernel_rfl) (lt_nil)))))))))) ?_
      refine pl_end (by kernel_rfl) ?_
      refine ej_blk ?_
      exact ej_rdS (y ||| m) ⟨or256 hy256 (by omega), hy⟩ (fun _ h => h)
    · rintro Db y ⟨-, hy⟩
      rw [List.drop_of_length_le (Nat.le_refl _)] at hy
      have hy2 : y = keysN s.s n r := hy
      subst hy2
      refine ej_blk (ej_th (cj_seq ?_))
      refine cj_regionG (gj_step (y_load1 Tryz.isAgg3 rfl rfl) rfl rfl rfl (gj_step (y_assign rfl) rfl rfl rfl (gj_nil ?_)))
      refine ej_th (cj_ret ?_)
      exact ej_retM1 rfl Tryz.results194 rfl (fun w' hp => ⟨rfl, hp.below⟩)
    · intro Db z; exact z.elim

end Go.Proofs.YtppfniekcgnmjaaGreatDoor.Va
namespace Go.Proofs.YtppfniekcgnmjaaGreatDoor.Va
open Go.Sx Go.RowKit
set_option maxRecDepth 20000

end Go.Proofs.YtppfniekcgnmjaaGreatDoor.Va
namespace Go.Proofs.YtppfniekcgnmjaaGreatDoor.Va
open Go.Sx Go.RowKit Vm
set_option maxRecDepth 20000
theorem k_op1 (s : StrV) (n r m bt br : Nat) (w : World) (hs : StrRd w s) (hok : StrOk s) (hn : n < 64) (hr : r < 64) (hm : m < 256) (hbt : (ownB bt (cellsB 250 [.slice s.Ar s.rooms.length s.cr, .slice s.Ag s.gates.length s.cg, .slice s.As s.staff.length s.cs, .int .i64 (n : Nat)])).P w) (hbr : (ownB br (cellsB 3 [.int .i64 (r : Nat)])).P w) : Calls Tryz.prog 193 #[.int .i64 (m : Nat), .pointer (some ⟨bt, 0, none⟩), .pointer (some ⟨br, 0, none⟩)] w (fun e w' => e = .returned (.bool (hasN (keysN s.s n r) m)) ∧ Grow w w') := by
  have hk := keysN_lt hok n r
  refine enter_pure (args := [.int .i64 (m : Nat), .pointer (some ⟨bt, 0, none⟩), .pointer (some ⟨br, 0, none⟩)]) [ownB bt (cellsB 250 [.slice s.Ar s.rooms.length s.cr, .slice s.Ag s.gates.length s.cg, .slice s.As s.staff.length s.cs, .int .i64 (n : Nat)]), ownB br (cellsB 3 [.int .i64 (r : Nat)])] Tryz.func193 rfl (by rw [Tryz.ntmps193]; simp) (fun f hf => by
    simp only [List.mem_cons, List.mem_nil_iff, or_false] at hf
    rcases hf with rfl | rfl
    · exact ⟨hbt, fun i hi => by have : i = bt := hi; subst this; exact (Array.getElem?_eq_some_iff.1 hbt).1⟩
    · exact ⟨hbr, fun i hi => by have : i = br := hi; subst this; exact (Array.getElem?_eq_some_iff.1 hbr).1⟩) ?_
  refine cj_seq ?_
  refine cj_regionG (gj_step (y_assign rfl) rfl rfl rfl (gj_nil ?_))
  refine ej_th (cj_seq ?_)
  refine cj_regionG ?_
  refine gj_step (y_loadSN Tryz.isAgg250 Tryz.sizeOf250 rfl) rfl rfl rfl (gj_step (y_loadS1 Tryz.isAgg3 rfl rfl) rfl rfl rfl (?_))
  refine gj_step (y_call Tryz.call194 rfl (fun w hp => k_keys s n r w (hs.mono hp.below) hok hn hr)) rfl rfl rfl ?_
  refine gj_step (y_move rfl) rfl rfl rfl (?_)
  refine gj_step (y_call Tryz.call172 rfl (fun w hp => k_has _ m w (by omega) (by omega))) rfl rfl rfl ?_
  refine gj_step (y_assign rfl) rfl rfl rfl (?_)
  refine gj_nil ?_
  refine ej_th (cj_ret ?_)
  exact ej_ret1 rfl Tryz.results193 rfl (fun w' hp => ⟨rfl, hp.below⟩)

theorem k_opens (s : StrV) (n r : Nat) (g : GateV) (w : World) (hs : StrRd w s) (hok : StrOk s) (hn : n < 64) (hr : r < 64) (hg : g ∈ s.gates) : Calls Tryz.prog 173 #[.agg #[.slice s.Ar s.rooms.length s.cr, .slice s.Ag s.gates.length s.cg, .slice s.As s.staff.length s.cs, .int .i64 (n : Nat)], .agg #[.int .i64 g.a, .int .i64 g.b, .int .i64 g.need, .slice g.A g.ways.length g.c], .int .i64 (r : Nat)] w (fun e w' => e = .returned (.bool (openN s.s n r g.n)) ∧ Grow w w') := by
  have hgo := hok.gate g hg
  obtain ⟨hga, hgb, hgne, hgn, hgl, hgw⟩ := hgo
  have hpc := popc_le n
  refine enter_pure (args := [.agg #[.slice s.Ar s.rooms.length s.cr, .slice s.Ag s.gates.length s.cg, .slice s.As s.staff.length s.cs, .int .i64 (n : Nat)], .agg #[.int .i64 g.a, .int .i64 g.b, .int .i64 g.need, .slice g.A g.ways.length g.c], .int .i64 (r : Nat)]) [sl (fun b => b < w.heap.size) 1 enInt g.A g.ways] Tryz.func173 rfl (by rw [Tryz.ntmps173]; simp) (fun g hg => by simp at hg; subst hg; exact ⟨hs.ways g hg, fun _ h => h⟩) ?_
  refine cj_seq (cj_region ?_)
  refine oj_box rfl rfl rfl (fun b3 => ?_)
  refine oj_box rfl rfl rfl (fun b4 => ?_)
  refine oj_box rfl rfl rfl (fun b5 => ?_)
  refine oj_step (y_assign rfl) rfl rfl rfl ?_
  refine oj_nil ?_
  refine ej_th (cj_seq ?_)
  refine cj_draw (by kernel_rfl) (by kernel_rfl) ?_
  refine gj_step (y_fa fa250_1 rfl) rfl rfl rfl (gj_step (y_load1 Tryz.isAgg3 rfl rfl) rfl rfl rfl (gj_step (y_toU Tryz.underlying3 Tryz.underlying236 rfl (by omega)) rfl rfl rfl (?_)))
  refine gj_step (y_call Tryz.call192 rfl (fun w hp => (k_ocN n (by omega) w).mono fun e w1 h => ⟨h.1, by rw [h.2]; exact Below.refl _ _⟩)) rfl rfl rfl ?_
  refine gj_step (y_fa fa201_2 rfl) rfl rfl rfl (gj_step (y_load1 Tryz.isAgg3 rfl rfl) rfl rfl rfl (gj_step (y_geq rfl rfl) rfl rfl rfl (gj_step (y_move rfl) rfl rfl rfl (?_))))
  refine gj_g 4 14 18 rfl rfl rfl rfl (fun hg14 => gj_yes rfl rfl rfl (y_fa fa201_3 rfl) rfl rfl (gj_yes rfl rfl rfl (y_load1 Tryz.isAgg26 rfl rfl) rfl rfl (gj_yes rfl rfl rfl (y_makeFunc rfl rfl) rfl rfl (gj_yes rfl rfl rfl (y_call Tryz.call110 rfl (fun w hp => k_ContI g.ways g.A g.c 193 #[.pointer (some ⟨b3, 0, none⟩), .pointer (some ⟨b5, 0, none⟩)] (fun x => hasN (keysN s.s n r) x.toNat) w hp.rd Tryz.call193 (fun x hx w1 hg => by
    have hx2 := hgw x hx
    obtain ⟨m, rfl⟩ : ∃ m : Nat, x = m := ⟨x.toNat, by omega⟩
    exact k_op1 s n r m b3 b5 w1 ((hs.mono hp.below).mono hg) hok hn hr (by omega) ((hp.grow hg).own1) ((hp.grow hg).own1)))) rfl rfl (gj_nil rfl))))) ?_
  refine gj_step (y_and rfl rfl rfl) rfl rfl rfl (gj_step (y_assign rfl) rfl rfl rfl (?_))
  refine gj_nil ?_
  refine ej_th (cj_ret ?_)
  exact ej_ret1 rfl Tryz.results173 rfl (fun w' hp => ⟨rfl, hp.below⟩)

theorem k_new (s : StrV) (n r : Nat) (g : GateV) (w : World) (hs : StrRd w s) (hb : strB s.s = true) (hn : n < 64) (hr : r < 2 ^ s.rooms.length) (hg : g ∈ s.gates) : Calls Tryz.prog 150 #[.agg #[.slice s.Ar s.rooms.length s.cr, .slice s.Ag s.gates.length s.cg, .slice s.As s.staff.length s.cs, .int .i64 (n : Nat)], .agg #[.int .i64 g.a, .int .i64 g.b, .int .i64 g.need, .slice g.A g.ways.length g.c], .int .i64 (r : Nat)] w (fun e w' => e = .returned (.tuple #[.int .i64 (newI s n r g), .bool (leadN s.s n r g.n)]) ∧ Grow w w') := by
  have hok := StrOk.of hb
  have hnr := hok.nr
  have hng := hok.ng
  have hns := hok.ns
  have hr64 : r < 64 := Nat.lt_of_lt_of_le hr (pow_le64 hnr.2)
  have hgo := hok.gate g hg
  obtain ⟨hga, hgb, hgne, hgn, hgl, hgw⟩ := hgo
  have hpa : 2 ^ g.a.toNat ≤ 1152921504606846976 := pow_bd (n := 6) (by omega) (by omega)
  have hpb : 2 ^ g.b.toNat ≤ 1152921504606846976 := pow_bd (n := 6) (by omega) (by omega)
  refine enter_pure (args := [.agg #[.slice s.Ar s.rooms.length s.cr, .slice s.Ag s.gates.length s.cg, .slice s.As s.staff.length s.cs, .int .i64 (n : Nat)], .agg #[.int .i64 g.a, .int .i64 g.b, .int .i64 g.need, .slice g.A g.ways.length g.c], .int .i64 (r : Nat)]) [] Tryz.func150 rfl (by rw [Tryz.ntmps150]; simp) (by simp) ?_
  refine cj_seq (cj_region ?_)
  refine oj_box rfl rfl rfl (fun b3 => ?_)
  refine oj_box rfl rfl rfl (fun b4 => ?_)
  refine oj_step (y_assign rfl) rfl rfl rfl ?_
  refine oj_step (y_assign rfl) rfl rfl rfl ?_
  refine oj_nil ?_
  refine ej_th (cj_seq ?_)
  refine cj_draw (by kernel_rfl) (by kernel_rfl) ?_
  refine gj_step (y_move rfl) rfl rfl rfl (gj_step (y_fa0 fa201_0 rfl) rfl rfl rfl (gj_step (y_load1 Tryz.isAgg3 rfl rfl) rfl rfl rfl (gj_step (y_shl1I rfl rfl (by omega) (by omega)) rfl rfl rfl (?_))))
  refine gj_step (y_call Tryz.call172 rfl (fun w hp => k_has r (2 ^ g.a.toNat) w (by omega) (by omega))) rfl rfl rfl ?_
  refine gj_step (y_move rfl) rfl rfl rfl (gj_step (y_fa fa201_1 rfl) rfl rfl rfl (gj_step (y_load1 Tryz.isAgg3 rfl rfl) rfl rfl rfl (gj_step (y_shl1I rfl rfl (by omega) (by omega)) rfl rfl rfl (?_))))
  refine gj_step (y_call Tryz.call172 rfl (fun w hp => k_has r (2 ^ g.b.toNat) w (by omega) (by omega))) rfl rfl rfl ?_
  refine gj_step (y_assign rfl) rfl rfl rfl (gj_step (y_assign rfl) rfl rfl rfl (?_))
  refine gj_nil ?_
  refine ej_th (cj_seq (cj_seq ?_))
  refine cj_regionG ?_
  refine gj_step (y_move rfl) rfl rfl rfl (gj_step (y_move rfl) rfl rfl rfl (gj_step (y_eqlB Tryz.underlying4 rfl rfl) rfl rfl rfl (gj_step (y_move rfl) rfl rfl rfl (?_))))
  refine gj_g 5 23 28 rfl rfl rfl rfl (fun hg23 => gj_yes rfl rfl rfl (y_loadN Tryz.isAgg250 Tryz.sizeOf250 rfl) rfl rfl (gj_yes rfl rfl rfl (y_loadN Tryz.isAgg201 Tryz.sizeOf201 rfl) rfl rfl (gj_yes rfl rfl rfl (y_move rfl) rfl rfl (gj_yes rfl rfl rfl (y_call Tryz.call173 rfl (fun w hp => k_opens s n r g w (hs.mono hp.below) hok hn hr64 hg)) rfl rfl (gj_yes rfl rfl rfl (y_not rfl) rfl rfl (gj_nil rfl)))))) ?_
  refine gj_step (y_or rfl rfl rfl) rfl rfl rfl (?_)
  refine gj_nil ?_
  refine ej_th ?_
  refine cj_cond rfl (fun h29 => ?_) (fun h29 => ?_)
  · have h29b := h29
    try simp only [sxb] at h29
    rw [hasN_bit, hasN_bit, new_V] at h29b
    refine cj_seq ?_
    refine cj_regionG (gj_step (y_assign rfl) rfl rfl rfl (gj_step (y_assign rfl) rfl rfl rfl (gj_nil ?_)))
    refine ej_th (cj_ret (ej_then_ret ?_))
    refine ej_ret2 rfl Tryz.results150 rfl rfl (fun w' hp => ⟨?_, hp.below⟩)
    rw [newI, if_neg (by rw [not_t h29b]; simp), not_t h29b]
  · have h29b := h29
    try simp only [sxb] at h29
    rw [hasN_bit, hasN_bit, new_V] at h29b
    refine cj_skip (ej_th (cj_seq (cj_seq ?_)))
    refine cj_regionG (gj_step (y_move rfl) rfl rfl rfl (gj_nil ?_))
    refine ej_th ?_
    refine cj_cond rfl (fun h30 => ?_) (fun h30 => ?_)
    · have h30b := h30
      try simp only [sxb] at h30
      rw [hasN_bit] at h30b
      refine cj_seq ?_
      refine cj_regionG (gj_step (y_fa fa201_1 rfl) rfl rfl rfl (gj_step (y_load1 Tryz.isAgg3 rfl rfl) rfl rfl rfl (gj_step (y_assign rfl) rfl rfl rfl (gj_step (y_assign rfl) rfl rfl rfl (gj_nil ?_)))))
      refine ej_th (cj_ret (ej_then_ret ?_))
      refine ej_ret2 rfl Tryz.results150 rfl rfl (fun w' hp => ⟨?_, hp.below⟩)
      rw [newI, if_pos (not_f h29b), if_pos h30b, not_f h29b]
    · have h30b := h30
      try simp only [sxb] at h30
      rw [hasN_bit] at h30b
      refine cj_skip (ej_th (cj_seq ?_))
      refine cj_regionG (gj_step (y_fa0 fa201_0 rfl) rfl rfl rfl (gj_step (y_load1 Tryz.isAgg3 rfl rfl) rfl rfl rfl (gj_step (y_assign rfl) rfl rfl rfl (gj_step (y_assign rfl) rfl rfl rfl (gj_nil ?_)))))
      refine ej_th (cj_ret ?_)
      refine ej_ret2 rfl Tryz.results150 rfl rfl (fun w' hp => ⟨?_, hp.below⟩)
      rw [newI, if_pos (not_f h29b), if_neg (by rw [h30b]; simp), not_f h29b]

theorem k_reach (s : StrV) (n : Nat) (w : World) (hs : StrRd w s) (hb : strB s.s = true) (hn : n < 64) : Calls Tryz.prog 118 #[.agg #[.slice s.Ar s.rooms.length s.cr, .slice s.Ag s.gates.length s.cg, .slice s.As s.staff.length s.cs, .int .i64 (n : Nat)]] w (fun e w' => e = .returned (.int .i64 (reachV s.s n : Nat)) ∧ Grow w w') := by
  have hok := StrOk.of hb
  have hnr := hok.nr
  have hng := hok.ng
  have hns := hok.ns
  refine enter_pure (args := [.agg #[.slice s.Ar s.rooms.length s.cr, .slice s.Ag s.gates.length s.cg, .slice s.As s.staff.length s.cs, .int .i64 (n : Nat)]]) [sl (fun b => b < w.heap.size) 3 encRo s.Ar s.rooms, sl (fun b => b < w.heap.size) 4 encGa s.Ag s.gates, sl (fun b => b < w.heap.size) 1 enInt s.As s.staff] Tryz.func118 rfl (by rw [Tryz.ntmps118]; simp) (fun g hg => by simp at hg; rcases hg with rfl | rfl | rfl; exact ⟨hs.rooms, fun _ h => h⟩; exact ⟨hs.gates, fun _ h => h⟩; exact ⟨hs.staff, fun _ h => h⟩) ?_
  refine cj_seq (cj_region ?_)
  refine oj_box rfl rfl rfl (fun b1 => ?_)
  refine oj_step (y_assign rfl) rfl rfl rfl ?_
  refine oj_nil ?_
  refine ej_th ?_
  refine cj_scope rfl ?_
  refine cj_seq ?_
  refine cj_regionG (gj_step (y_assign rfl) rfl rfl rfl (gj_nil ?_))
  refine ej_th (cj_seq (cj_label (ej_th (cj_block ?_))))
  refine cj_lpi (X := Nat) [(1, _)] (fun r => r < 2 ^ s.rooms.length ∧ reachW s.s n r = reachV s.s n) (fun r => [(3, .int .i64 (r : Nat))]) (fun r => [ownB b1 (cellsB 250 [.slice s.Ar s.rooms.length s.cr, .slice s.Ag s.gates.length s.cg, .slice s.As s.staff.length s.cs, .int .i64 (n : Nat)])]) (fun r => [sl (fun b => b < w.heap.size) 3 encRo s.Ar s.rooms, sl (fun b => b < w.heap.size) 4 encGa s.Ag s.gates, sl (fun b => b < w.heap.size) 1 enInt s.As s.staff]) (fun r => 64 - r) 1 (⟨one_lt hb, rfl⟩) ⟨rfl, rfl, trivial⟩ ?_
  rintro r ⟨hr, hW⟩
  dsimp only [List.cons_append, List.nil_append]
  have hr64 : r < 64 := Nat.lt_of_lt_of_le hr (pow_le64 hnr.2)
  refine cj_block (cj_seq (cj_seq ?_))
  refine cj_regionG (gj_step (y_fa0 fa250_0 rfl) rfl rfl rfl (gj_step (y_fa fa204_1 rfl) rfl rfl rfl (gj_step (y_load1 Tryz.isAgg202 rfl rfl) rfl rfl rfl (gj_step (y_lenA Tryz.underlying202 rfl) rfl rfl rfl (gj_step (y_move rfl) rfl rfl rfl (gj_nil ?_))))))
  refine ej_th (cj_block ?_)
  refine cj_lpi (X := Nat) [(1, _), (10, _), (11, _)] (fun k => k ≤ s.gates.length ∧ (s.gates.take k).all (fun g => !leadN s.s n r g.n) = true) (fun k => [(3, .int .i64 (r : Nat)), (12, .int .i64 (k : Nat))]) (fun k => [ownB b1 (cellsB 250 [.slice s.Ar s.rooms.length s.cr, .slice s.Ag s.gates.length s.cg, .slice s.As s.staff.length s.cs, .int .i64 (n : Nat)])]) (fun k => [sl (fun b => b < w.heap.size) 3 encRo s.Ar s.rooms, sl (fun b => b < w.heap.size) 4 encGa s.Ag s.gates, sl (fun b => b < w.heap.size) 1 enInt s.As s.staff]) (fun k => s.gates.length - k) 0 (⟨Nat.zero_le _, rfl⟩) ⟨rfl, rfl, rfl, rfl, rfl, trivial⟩ ?_
  rintro k ⟨hk, hall⟩
  dsimp only [List.cons_append, List.nil_append]
  refine cj_seq ?_
  refine cj_regionG (gj_step (y_lss rfl rfl) rfl rfl rfl (gj_nil ?_))
  refine ej_th (cj_seq ?_)
  refine cj_cond rfl (fun h13 => ?_) (fun h13 => ?_)
  · have h13b := h13
    try simp only [sxb] at h13
    obtain ⟨g, hgk⟩ : ∃ g, s.gates[k]? = some g := ⟨_, List.getElem?_eq_getElem (by omega)⟩
    have hg := List.mem_of_getElem? hgk
    have hgo := hok.gate g hg
    obtain ⟨hga, hgb, hgne, hgn, hgl, hgw⟩ := hgo
    refine cj_skip (ej_th (cj_seq (cj_block (cj_seq (cj_region ?_)))))
    refine oj_step (y_ixR (reads_sl) Tryz.underlying202 Tryz.sizeOf201 rfl rfl (⟨by omega, by omega⟩)) rfl rfl rfl ?_
    refine oj_step (y_ldW (reads_sl) Tryz.isAgg201 Tryz.sizeOf201 rfl (hgk) (fun _ => rfl)) rfl rfl rfl ?_
    refine oj_alloc Tryz.zeroValue201 rfl rfl (fun b5 => ?_)
    refine oj_store rfl rfl rfl rfl Tryz.sizeOf201 rfl ?_
    refine oj_nil ?_
    refine ej_th (cj_seq ?_)
    refine cj_regionG ?_
    refine gj_step (y_loadN Tryz.isAgg250 Tryz.sizeOf250 rfl) rfl rfl rfl (gj_step (y_loadN Tryz.isAgg201 Tryz.sizeOf201 rfl) rfl rfl rfl (gj_step (y_move rfl) rfl rfl rfl (?_)))
    refine gj_step (y_call Tryz.call150 rfl (fun w hp => k_new s n r g w (hs.mono hp.below) hb hn hr hg)) rfl rfl rfl ?_
    refine gj_step (y_move rfl) rfl rfl rfl (gj_step (y_extract rfl rfl) rfl rfl rfl (gj_step (y_extract rfl rfl) rfl rfl rfl (gj_step (y_assign rfl) rfl rfl rfl (gj_step (y_assign rfl) rfl rfl rfl (?_)))))
    refine gj_nil ?_
    refine ej_th (cj_seq ?_)
    refine cj_regionG (gj_step (y_move rfl) rfl rfl rfl (gj_nil ?_))
    refine ej_th ?_
    refine cj_cond rfl (fun h23 => ?_) (fun h23 => ?_)
    · have h23b := h23
      try simp only [sxb] at h23
      have hnx := next_new h23b
      have hnb : 0 ≤ newI s n r g ∧ newI s n r g ≤ 5 := by unfold newI; rw [if_pos h23b]; split <;> omega
      have hpn : 2 ^ (newI s n r g).toNat ≤ 1152921504606846976 := pow_bd (n := 6) (by omega) (by omega)
      have hlt := next_lt hb hr (List.mem_map.2 ⟨g, hg, rfl⟩)
      have hgt := next_gt h23b
      have hst := reachW_some hb hr (find_step hgk hall h23b)
      refine cj_seq ?_
      refine cj_regionG (gj_step (y_move rfl) rfl rfl rfl (gj_step (y_move rfl) rfl rfl rfl (gj_step (y_shl1I rfl rfl (by omega) (by omega)) rfl rfl rfl (gj_step (y_orN rfl rfl (by omega) (by omega)) rfl rfl rfl (gj_step (y_assign rfl) rfl rfl rfl (gj_nil ?_))))))
      refine ej_th (cj_exit (ej_blk_pass rfl (ej_then_exit (ej_then_exit (ej_blk_pass rfl (ej_then_exit (ej_blk_hit ?_)))))))
      rw [hnx]
      exact ej_nx (nextN r g.n) (by first | omega | (simp only; omega)) ⟨hlt, by rw [← hst]; exact hW⟩ ⟨rfl, rfl, trivial⟩
    · have h23b := h23
      try simp only [sxb] at h23
      refine cj_skip (ej_blk (ej_th ?_))
      refine cj_regionG (gj_step (y_add rfl rfl (by omega)) rfl rfl rfl (gj_step (y_move rfl) rfl rfl rfl (gj_nil ?_)))
      exact ej_nx (k + 1) (by omega) ⟨by omega, take_all hgk hall (by rw [h23b]; rfl)⟩ ⟨rfl, rfl, rfl, rfl, rfl, trivial⟩
  · have h13b := h13
    try simp only [sxb] at h13
    have hfin := reachW_none hb hr (find_stop (by rw [← hall, List.take_of_length_le (by omega)]))
    rw [hW] at hfin
    subst hfin
    refine cj_exit (ej_then_exit (ej_then_exit (ej_blk_hit (ej_th (cj_seq ?_)))))
    refine cj_regionG (gj_step (y_move rfl) rfl rfl rfl (gj_step (y_assign rfl) rfl rfl rfl (gj_nil ?_)))
    refine ej_th (cj_ret (ej_blk_ret (ej_then_ret (ej_blk_ret (ej_noGoto_ret ?_)))))
    exact ej_ret1 rfl Tryz.results118 rfl (fun w' hp => ⟨rfl, hp.below⟩)

theorem k_asked (s : StrV) (g : Int) (w : World) (hs : StrRd w s) : Calls Tryz.prog 117 #[.agg #[.slice s.Ar s.rooms.length s.cr, .slice s.Ag s.gates.length s.cg, .slice s.As s.staff.length s.cs], .int .i64 g] w (fun e w' => e = .returned (.tuple #[.agg #[.slice (askS s g).Ar (askS s g).rooms.length (askS s g).cr, .slice (askS s g).Ag (askS s g).gates.length (askS s g).cg, .slice (askS s g).As (askS s g).staff.length (askS s g).cs, .int .i64 (askG s g)], .int .i64 (askE s g)]) ∧ Grow w w') := by
  refine enter_pure (args := [.agg #[.slice s.Ar s.rooms.length s.cr, .slice s.Ag s.gates.length s.cg, .slice s.As s.staff.length s.cs], .int .i64 g]) [] Tryz.func117 rfl (by rw [Tryz.ntmps117]; simp) (by simp) ?_
  refine cj_seq (cj_region ?_)
  refine oj_box rfl rfl rfl (fun b2 => ?_)
  refine oj_alloc Tryz.zeroValue250 rfl rfl (fun b4 => ?_)
  refine oj_step (y_assign rfl) rfl rfl rfl ?_
  refine oj_nil ?_
  refine ej_th (cj_seq (cj_seq ?_))
  refine cj_regionG ?_
  refine gj_step (y_loadN Tryz.isAgg204 Tryz.sizeOf204 rfl) rfl rfl rfl (?_)
  refine gj_step (y_call Tryz.call148 rfl (fun w hp => k_Check s w (hs.mono hp.below))) rfl rfl rfl ?_
  refine gj_step (y_assign rfl) rfl rfl rfl (?_)
  refine gj_nil ?_
  refine ej_th (cj_seq ?_)
  refine cj_regionG (gj_step (y_move rfl) rfl rfl rfl (gj_step (y_neq rfl rfl) rfl rfl rfl (gj_nil ?_)))
  refine ej_th ?_
  refine cj_cond rfl (fun h10 => ?_) (fun h10 => ?_)
  · have h10b := h10
    try simp only [sxb] at h10
    have hb := (strE_f h10).1
    have h40 := (strE_f h10).2
    obtain ⟨e1, e2, e3⟩ := ask_40 (g := g) hb
    refine cj_seq (cj_region ?_)
    refine oj_step (y_build st250 rfl rfl) rfl rfl rfl ?_
    refine oj_step (y_move rfl) rfl rfl rfl ?_
    refine oj_store rfl rfl rfl rfl Tryz.sizeOf250 rfl ?_
    refine oj_step (y_assign rfl) rfl rfl rfl ?_
    refine oj_nil ?_
    refine ej_th (cj_ret (ej_then_ret ?_))
    exact ej_retC2 rfl Tryz.results117 rfl (y_loadN Tryz.isAgg250 Tryz.sizeOf250 rfl) rfl (fun w' hp => ⟨by rw [e1, e2, e3, h40]; rfl, hp.below⟩)
  · have h10b := h10
    try simp only [sxb] at h10
    have hb := strE_t (by simpa using h10)
    refine cj_skip (ej_th (cj_seq (cj_seq ?_)))
    refine cj_regionG ?_
    refine gj_step (y_move rfl) rfl rfl rfl (gj_step (y_fa fa204_2 rfl) rfl rfl rfl (gj_step (y_load1 Tryz.isAgg26 rfl rfl) rfl rfl rfl (gj_step (y_lenA Tryz.underlying26 rfl) rfl rfl rfl (?_))))
    refine gj_step (y_call Tryz.call149 rfl (fun w hp => k_set g s.staff.length w (Nat.le_trans (m := 6) (rooms_le hb).2.2.2.1 (by omega)))) rfl rfl rfl ?_
    refine gj_step (y_not rfl) rfl rfl rfl (?_)
    refine gj_nil ?_
    refine ej_th ?_
    refine cj_cond rfl (fun h18 => ?_) (fun h18 => ?_)
    · have h18b := h18
      try simp only [sxb] at h18
      obtain ⟨e1, e2, e3⟩ := ask_41 hb (not_t h18b)
      refine cj_seq (cj_region ?_)
      refine oj_step (y_build st250 rfl rfl) rfl rfl rfl ?_
      refine oj_store rfl rfl rfl rfl Tryz.sizeOf250 rfl ?_
      refine oj_step (y_assign rfl) rfl rfl rfl ?_
      refine oj_nil ?_
      refine ej_th (cj_ret (ej_then_ret ?_))
      exact ej_retC2 rfl Tryz.results117 rfl (y_loadN Tryz.isAgg250 Tryz.sizeOf250 rfl) rfl (fun w' hp => ⟨by rw [e1, e2, e3]; rfl, hp.below⟩)
    · have h18b := h18
      try simp only [sxb] at h18
      have e1 := ask_yes hb (not_f h18b)
      obtain ⟨e2, e3, _⟩ := ask_0 e1
      refine cj_skip (ej_th (cj_seq (cj_region ?_)))
      refine oj_step (y_loadN Tryz.isAgg204 Tryz.sizeOf204 rfl) rfl rfl rfl ?_
      refine oj_step (y_move rfl) rfl rfl rfl ?_
      refine oj_step (y_build (cs := [.slice s.Ar s.rooms.length s.cr, .slice s.Ag s.gates.length s.cg, .slice s.As s.staff.length s.cs, .int .i64 g]) st250 rfl (by kernel_rfl)) rfl rfl rfl ?_
      refine oj_store rfl rfl rfl rfl Tryz.sizeOf250 rfl ?_
      refine oj_step (y_assign rfl) rfl rfl rfl ?_
      refine oj_nil ?_
      refine ej_th (cj_ret ?_)
      exact ej_retC2 rfl Tryz.results117 rfl (y_loadN Tryz.isAgg250 Tryz.sizeOf250 rfl) rfl (fun w' hp => ⟨by rw [e1, e2, e3], hp.below⟩)

theorem k_Enter (s : StrV) (g : Int) (w : World) (hs : StrRd w s) : Calls Tryz.prog 86 #[.agg #[.slice s.Ar s.rooms.length s.cr, .slice s.Ag s.gates.length s.cg, .slice s.As s.staff.length s.cs], .int .i64 g] w (fun e w' => e = .returned (.tuple #[.int .i64 (EntV s g), .int .i64 (askE s g)]) ∧ Grow w w') := by
  refine enter_pure (args := [.agg #[.slice s.Ar s.rooms.length s.cr, .slice s.Ag s.gates.length s.cg, .slice s.As s.staff.length s.cs], .int .i64 g]) [] Tryz.func86 rfl (by rw [Tryz.ntmps86]; simp) (by simp) ?_
  refine cj_seq (cj_region ?_)
  refine oj_box rfl rfl rfl (fun b2 => ?_)
  refine oj_step (y_assign rfl) rfl rfl rfl ?_
  refine oj_step (y_assign rfl) rfl rfl rfl ?_
  refine oj_nil ?_
  refine ej_th (cj_seq (cj_region ?_))
  refine oj_step (y_loadN Tryz.isAgg204 Tryz.sizeOf204 rfl) rfl rfl rfl ?_
  refine oj_step (y_move rfl) rfl rfl rfl ?_
  refine oj_step (y_call Tryz.call117 rfl (fun w hp => k_asked s g w (hs.mono hp.below))) rfl rfl rfl ?_
  refine oj_step (y_move rfl) rfl rfl rfl ?_
  refine oj_step (y_extract rfl rfl) rfl rfl rfl ?_
  refine oj_step (y_extract rfl rfl) rfl rfl rfl ?_
  refine oj_alloc Tryz.zeroValue250 rfl rfl (fun b6 => ?_)
  refine oj_store rfl rfl rfl rfl Tryz.sizeOf250 rfl ?_
  refine oj_step (y_assign rfl) rfl rfl rfl ?_
  refine oj_nil ?_
  refine ej_th (cj_seq (cj_seq ?_))
  refine cj_regionG (gj_step (y_move rfl) rfl rfl rfl (gj_step (y_neq rfl rfl) rfl rfl rfl (gj_nil ?_)))
  refine ej_th ?_
  refine cj_cond rfl (fun h15 => ?_) (fun h15 => ?_)
  · have h15b := h15
    try simp only [sxb] at h15
    refine cj_seq ?_
    refine cj_regionG (gj_step (y_move rfl) rfl rfl rfl (gj_step (y_assign rfl) rfl rfl rfl (gj_step (y_assign rfl) rfl rfl rfl (gj_nil ?_))))
    refine ej_th (cj_ret (ej_then_ret ?_))
    refine ej_ret2 rfl Tryz.results86 rfl rfl (fun w' hp => ⟨?_, hp.below⟩)
    rw [EntV, if_neg h15]
  · have h15b := h15
    try simp only [sxb] at h15
    have h0 : askE s g = 0 := by simpa using h15
    obtain ⟨e2, e3, hb, hg0, hgl, hm64⟩ := ask_0 h0
    rw [e2, e3]
    obtain ⟨m, hm⟩ : ∃ m : Nat, g = m := ⟨g.toNat, by omega⟩
    subst hm
    rw [Int.toNat_natCast] at hm64 hgl
    refine cj_skip (ej_th (cj_seq ?_))
    refine cj_regionG ?_
    refine gj_step (y_loadN Tryz.isAgg250 Tryz.sizeOf250 rfl) rfl rfl rfl (?_)
    refine gj_step (y_call Tryz.call118 rfl (fun w hp => k_reach s m w (hs.mono hp.below) hb hm64)) rfl rfl rfl ?_
    refine gj_step (y_assign rfl) rfl rfl rfl (gj_step (y_assign rfl) rfl rfl rfl (?_))
    refine gj_nil ?_
    refine ej_th (cj_ret ?_)
    refine ej_ret2 rfl Tryz.results86 rfl rfl (fun w' hp => ⟨?_, hp.below⟩)
    rw [EntV, if_pos h0, h0]; rfl

end Go.Proofs.YtppfniekcgnmjaaGreatDoor.Va
namespace Go.Proofs.YtppfniekcgnmjaaGreatDoor.Pl
open Go.Sx Go.RowKit
set_option maxRecDepth 20000

end Go.Proofs.YtppfniekcgnmjaaGreatDoor.Pl
namespace Go.Proofs.YtppfniekcgnmjaaGreatDoor.Pl
open Go.Sx Go.RowKit
set_option maxRecDepth 20000

end Go.Proofs.YtppfniekcgnmjaaGreatDoor.Pl
namespace Go.Proofs.YtppfniekcgnmjaaGreatDoor.Pl
open Go.Sx Go.RowKit

theorem not_t {b : Bool} (h : (!b) = true) : b = false := by cases b <;> simp_all
theorem not_f {b : Bool} (h : (!b) = false) : b = true := by cases b <;> simp_all
/-- the first index of a number, or -1 -/
def seek : List Int → Int → Int → Int
  | [], _, _ => -1
  | x :: l, n, i => if x = n then i else seek l n (i + 1)
theorem seek_drop (l : List Int) (n : Int) (k : Nat) (x : Int) (h : l[k]? = some x) : seek (l.drop k) n k = if x = n then (k : Int) else seek (l.drop (k + 1)) n ((k + 1 : Nat) : Int) := by
  obtain ⟨h1, h2⟩ := List.getElem?_eq_some_iff.1 h
  rw [List.drop_eq_getElem_cons h1, h2, seek]; rfl
def btw (lo n hi : Int) : Bool := decide (lo ≤ n) && decide (n ≤ hi)
theorem all_drop {α : Type} (p : α → Bool) (l : List α) (k : Nat) (x : α) (h : l[k]? = some x) : (l.drop k).all p = (p x && (l.drop (k + 1)).all p) := by
  obtain ⟨h1, h2⟩ := List.getElem?_eq_some_iff.1 h
  rw [List.drop_eq_getElem_cons h1, h2, List.all_cons]
end Go.Proofs.YtppfniekcgnmjaaGreatDoor.Pl
namespace Go.Proofs.YtppfniekcgnmjaaGreatDoor.Pl
open Go.Sx Go.RowKit
set_option maxRecDepth 20000
theorem k_From (lo n hi : Int) (w : World)  : Calls Tryz.prog 8 #[.int .i64 lo, .int .i64 n, .int .i64 hi] w (fun e w' => e = .returned (.bool (decide (lo ≤ n) && decide (n ≤ hi))) ∧ Grow w w') := by
  refine enter_pure (args := [.int .i64 lo, .int .i64 n, .int .i64 hi]) [] Tryz.func8 rfl (by rw [Tryz.ntmps8]; simp) (by simp) ?_
  refine cj_seq ?_
  refine cj_regionG (gj_step (y_assign rfl) rfl rfl rfl (gj_nil ?_))
  refine ej_th (cj_seq ?_)
  refine cj_regionG (gj_step (y_move rfl) rfl rfl rfl (gj_step (y_move rfl) rfl rfl rfl (gj_step (y_leq rfl rfl) rfl rfl rfl (gj_step (y_move rfl) rfl rfl rfl (gj_g 3 10 13 rfl rfl rfl rfl (fun hg10 => gj_yes rfl rfl rfl (y_move rfl) rfl rfl (gj_yes rfl rfl rfl (y_move rfl) rfl rfl (gj_yes rfl rfl rfl (y_leq rfl rfl) rfl rfl (gj_nil rfl)))) (gj_step (y_and rfl rfl rfl) rfl rfl rfl (gj_step (y_assign rfl) rfl rfl rfl (gj_nil ?_))))))))
  refine ej_th (cj_ret ?_)
  exact ej_ret1 rfl Tryz.results8 rfl (fun w' hp => ⟨rfl, hp.below⟩)

end Go.Proofs.YtppfniekcgnmjaaGreatDoor.Pl
namespace Go.Proofs.YtppfniekcgnmjaaGreatDoor.Pl
open Go.Sx Go.RowKit
set_option maxRecDepth 20000
end Go.Proofs.YtppfniekcgnmjaaGreatDoor.Pl
namespace Go.Proofs.YtppfniekcgnmjaaGreatDoor.Pl
open Go.Sx Go.RowKit

abbrev smS (l : List ByteArray) : Prop := ∀ s ∈ l, s.size ≤ 9223372036854775807
abbrev evB (b : Bool) : Value := .bool b
end Go.Proofs.YtppfniekcgnmjaaGreatDoor.Pl
namespace Go.Proofs.YtppfniekcgnmjaaGreatDoor.Pl
open Go.Sx Go.RowKit

/-- a trait, and where its values lie -/
structure TraitV where
  name : ByteArray
  A : Option Addr
  c : Nat
  vals : List ByteArray
  must : Bool
instance : Inhabited TraitV := ⟨⟨⟨#[]⟩, none, 0, [], false⟩⟩
abbrev encTr (t : TraitV) : List Value := [.string t.name, .slice t.A t.vals.length t.c, .bool t.must]
structure GoodT (w : World) (t : TraitV) : Prop where
  rd : Rd w 1 enStr t.A t.vals
  sm : smS t.vals
  nm : t.name.size ≤ 9223372036854775807
theorem GoodT.mono {w w' : World} {t : TraitV} (h : GoodT w t) (hg : Grow w w') : GoodT w' t := ⟨h.rd.mono hg, h.sm, h.nm⟩
/-- a class, and where its traits and parts lie -/
structure ClassV where
  name : ByteArray
  At : Option Addr
  ct : Nat
  traits : List TraitV
  Ap : Option Addr
  cp : Nat
  parts : List ByteArray
  most : Int
abbrev zC : ClassV := ⟨⟨#[]⟩, none, 0, [], none, 0, [], 0⟩
instance : Inhabited ClassV := ⟨zC⟩
structure GoodC (w : World) (c : ClassV) : Prop where
  rt : Rd w 3 encTr c.At c.traits
  tr : ∀ t ∈ c.traits, GoodT w t
  rp : Rd w 1 enStr c.Ap c.parts
  sm : smS c.parts
  nm : c.name.size ≤ 9223372036854775807
theorem GoodC.mono {w w' : World} {c : ClassV} (h : GoodC w c) (hg : Grow w w') : GoodC w' c := ⟨h.rt.mono hg, fun t ht => (h.tr t ht).mono hg, h.rp.mono hg, h.sm, h.nm⟩
theorem GoodC.zero (w : World) : GoodC w zC := ⟨.nil, by simp, .nil, fun s hs => (by cases hs), by decide⟩
/-- an item, and where what is said of it and its parts lie -/
inductive ItemV where
  | mk (cls : ByteArray) (As : Option Addr) (cs : Nat) (says : List ByteArray) (Ap : Option Addr) (cp : Nat) (parts : List ItemV)
namespace ItemV
def cls : ItemV → ByteArray | mk c .. => c
def As : ItemV → Option Addr | mk _ a .. => a
def cs : ItemV → Nat | mk _ _ c .. => c
def says : ItemV → List ByteArray | mk _ _ _ s .. => s
def Ap : ItemV → Option Addr | mk _ _ _ _ a .. => a
def cp : ItemV → Nat | mk _ _ _ _ _ c _ => c
def parts : ItemV → List ItemV | mk _ _ _ _ _ _ p => p
end ItemV
instance : Inhabited ItemV := ⟨.mk ⟨#[]⟩ none 0 [] none 0 []⟩
abbrev encIt (x : ItemV) : List Value := [.string x.cls, .slice x.As x.says.length x.cs, .slice x.Ap x.parts.length x.cp]
abbrev evI (x : ItemV) : Value := .agg #[.string x.cls, .slice x.As x.says.length x.cs, .slice x.Ap x.parts.length x.cp]
inductive GoodI (w : World) : ItemV → Prop
  | mk {x : ItemV} (hs : Rd w 1 enStr x.As x.says) (hp : Rd w 3 encIt x.Ap x.parts) (hn : x.cls.size ≤ 9223372036854775807) (hm : smS x.says) (hr : ∀ p ∈ x.parts, GoodI w p) : GoodI w x
theorem GoodI.rs {w : World} {x : ItemV} (h : GoodI w x) : Rd w 1 enStr x.As x.says := by cases h; assumption
theorem GoodI.rp {w : World} {x : ItemV} (h : GoodI w x) : Rd w 3 encIt x.Ap x.parts := by cases h; assumption
theorem GoodI.sm {w : World} {x : ItemV} (h : GoodI w x) : smS x.says := by cases h; assumption
theorem GoodI.nm {w : World} {x : ItemV} (h : GoodI w x) : x.cls.size ≤ 9223372036854775807 := by cases h; assumption
theorem GoodI.mono {w w' : World} {x : ItemV} (h : GoodI w x) (hg : Grow w w') : GoodI w' x := by
  induction h with
  | mk hs hp hn hm _ ih => exact .mk (hs.mono hg) (hp.mono hg) hn hm ih

/-! ### What the program says of a grammar -/
/-! ### What the program says of a description -/
theorem getL_mem {g : List (ByteArray × ClassV)} {s : ByteArray} {c : ClassV} (h : getL g s = some c) : ∃ p ∈ g, p.2 = c := by
  induction g with
  | nil => cases h
  | cons p g ih =>
    rw [getL] at h
    split at h
    · injection h with h; exact ⟨p, by simp, h⟩
    · obtain ⟨q, hq, he⟩ := ih h; exact ⟨q, by simp [hq], he⟩
theorem putL_mem {m : List (ByteArray × ClassV)} {k : ByteArray} {c : ClassV} {p : ByteArray × ClassV} (h : p ∈ putL m k c) : p ∈ m ∨ p.2 = c := by
  induction m with
  | nil => simp only [putL, List.mem_singleton] at h; exact .inr (by rw [h])
  | cons q m ih =>
    rw [putL] at h
    split at h
    · rcases List.mem_cons.1 h with h | h
      · exact .inr (by rw [h])
      · exact .inl (List.mem_cons_of_mem _ h)
    · rcases List.mem_cons.1 h with h | h
      · exact .inl (by rw [h]; exact List.mem_cons_self ..)
      · rcases ih h with h | h
        · exact .inl (List.mem_cons_of_mem _ h)
        · exact .inr h
end Go.Proofs.YtppfniekcgnmjaaGreatDoor.Pl
namespace Go.Proofs.YtppfniekcgnmjaaGreatDoor.Pl
open Go.Sx Go.RowKit
set_option maxRecDepth 20000

end Go.Proofs.YtppfniekcgnmjaaGreatDoor.Pl
namespace Go.Proofs.YtppfniekcgnmjaaGreatDoor.Pl
open Go.Sx Go.RowKit
set_option maxRecDepth 20000
theorem k_within1 (n lo hi : Int) (w : World)  : Calls Tryz.prog 121 #[.int .i64 n, .int .i64 lo, .int .i64 hi] w (fun e w' => e = .returned (.bool (decide (lo ≤ n) && decide (n ≤ hi))) ∧ Grow w w') := by
  refine enter_pure (args := [.int .i64 n, .int .i64 lo, .int .i64 hi]) [] Tryz.func121 rfl (by rw [Tryz.ntmps121]; simp) (by simp) ?_
  refine cj_seq ?_
  refine cj_regionG (gj_step (y_assign rfl) rfl rfl rfl (gj_nil ?_))
  refine ej_th (cj_seq ?_)
  refine cj_regionG (gj_step (y_move rfl) rfl rfl rfl (gj_step (y_move rfl) rfl rfl rfl (gj_step (y_geq rfl rfl) rfl rfl rfl (gj_step (y_move rfl) rfl rfl rfl (gj_g 3 10 13 rfl rfl rfl rfl (fun hg10 => gj_yes rfl rfl rfl (y_move rfl) rfl rfl (gj_yes rfl rfl rfl (y_move rfl) rfl rfl (gj_yes rfl rfl rfl (y_leq rfl rfl) rfl rfl (gj_nil rfl)))) (gj_step (y_and rfl rfl rfl) rfl rfl rfl (gj_step (y_assign rfl) rfl rfl rfl (gj_nil ?_))))))))
  refine ej_th (cj_ret ?_)
  exact ej_ret1 rfl Tryz.results121 rfl (fun w' hp => ⟨rfl, hp.below⟩)

end Go.Proofs.YtppfniekcgnmjaaGreatDoor.Pl
namespace Go.Proofs.YtppfniekcgnmjaaGreatDoor.Pl
open Go.Sx Go.RowKit

structure Meas where
  tol : Int
  lab : Int
  deriving Inhabited, DecidableEq
abbrev encMe (m : Meas) : List Value := [.int .i64 m.tol, .int .i64 m.lab]
structure Span where
  lo : Int
  hi : Int
  deriving Inhabited, DecidableEq
/-- a list of numbers, and where it lies -/
structure ListV where
  A : Option Addr
  c : Nat
  l : List Int
instance : Inhabited ListV := ⟨⟨none, 0, []⟩⟩
abbrev encLs (x : ListV) : List Value := [.slice x.A x.l.length x.c]
abbrev GoodL (w : World) (x : ListV) : Prop := Rd w 1 enInt x.A x.l
/-- a fake, and where it lies -/
structure FakeV where
  A : Option Addr
  c : Nat
  has : List Span
instance : Inhabited FakeV := ⟨⟨none, 0, []⟩⟩
/-! ### Checks -/
def meas1 (m : Meas) : Bool := btw 0 m.tol 1000 && btw 1 m.lab 1000
def measOk (ms : List Meas) : Bool := btw 1 ms.length 8 && ms.all meas1
def measE (ms : List Meas) : Int := if measOk ms then 0 else 12
def rd1 (n : Int) : Bool := btw (-1) n 100000
def rdOk (k : Nat) (l : List Int) : Bool := ((l.length : Int) == (k : Int)) && l.all rd1
def rdOkV (k : Nat) (x : ListV) : Bool := rdOk k x.l
def rdsE (k : Nat) (ls : List ListV) : Int := if ls.all (rdOkV k) then 0 else 13
/-- where the first number is that is no reading; -1: nowhere -/
def firstBad : List Int → Nat → Int
  | [], _ => -1
  | x :: l, n => if rd1 x = false then n else firstBad l (n + 1)
theorem firstBad_drop (l : List Int) (k : Nat) (x : Int) (h : l[k]? = some x) : firstBad (l.drop k) k = if rd1 x = false then (k : Int) else firstBad (l.drop (k + 1)) (k + 1) := by
  obtain ⟨h1, h2⟩ := List.getElem?_eq_some_iff.1 h
  rw [List.drop_eq_getElem_cons h1, h2, firstBad]
theorem firstBad_all (l : List Int) (n : Nat) : decide (0 ≤ firstBad l n) = !(l.all rd1) := by
  induction l generalizing n with
  | nil => rfl
  | cons q l ih =>
    rw [firstBad, List.all_cons]
    cases h : rd1 q with
    | false => rw [if_pos rfl]; exact decide_eq_true (by omega)
    | true => rw [if_neg (by simp), ih, Bool.true_and]
/-! ### What is narrowed, what agrees -/
def disag (m : Meas) (a b : Int) : Bool := (decide (0 ≤ a) && decide (0 ≤ b)) && !(btw (-2 * m.tol) (b - a) (2 * m.tol))
def agrF : List Meas → List Int → List Int → Bool
  | m :: ms, a :: us, b :: bs => !(disag m a b) && agrF ms us bs
  | _, _, _ => true
theorem agrF_drop (ms : List Meas) (us bs : List Int) (k : Nat) (m : Meas) (a b : Int) (h : ms[k]? = some m) (ha : us[k]? = some a) (hb : bs[k]? = some b) :
    agrF (ms.drop k) (us.drop k) (bs.drop k) = (!(disag m a b) && agrF (ms.drop (k + 1)) (us.drop (k + 1)) (bs.drop (k + 1))) := by
  obtain ⟨h1, h2⟩ := List.getElem?_eq_some_iff.1 h
  obtain ⟨h3, h4⟩ := List.getElem?_eq_some_iff.1 ha
  obtain ⟨h5, h6⟩ := List.getElem?_eq_some_iff.1 hb
  rw [List.drop_eq_getElem_cons h1, h2, List.drop_eq_getElem_cons h3, h4, List.drop_eq_getElem_cons h5, h6, agrF]
def AgrE (ms : List Meas) (a b : List Int) : Int := if measOk ms then (if rdOk ms.length a && rdOk ms.length b then 0 else 13) else 12
def AgrB (ms : List Meas) (a b : List Int) : Bool := (AgrE ms a b == 0) && agrF ms a b

/-! ### Fakes -/
def fnd (m : Meas) (r : Int) (s : Span) : Bool := decide (0 ≤ r) && (decide (r + 3 * m.tol < s.lo) || decide (s.hi < r - 3 * m.tol))
/-- the numbers of the measures that find a fake, from number k on -/
def fndF : List Meas → List Int → List Span → Nat → List Int
  | m :: ms, r :: rs, s :: ss, k => if fnd m r s then (k : Int) :: fndF ms rs ss (k + 1) else fndF ms rs ss (k + 1)
  | _, _, _, _ => []
@[simp] theorem fndF_nil (rs : List Int) (ss : List Span) (k : Nat) : fndF [] rs ss k = [] := by simp [fndF]
/-! ### What the checks say -/
theorem meas1_V (m : Meas) : ((!(decide (0 ≤ m.tol) && decide (m.tol ≤ 1000))) || !(decide (1 ≤ m.lab) && decide (m.lab ≤ 1000))) = !(meas1 m) := by
  unfold meas1 btw
  cases decide (0 ≤ m.tol) <;> cases decide (m.tol ≤ 1000) <;> cases decide (1 ≤ m.lab) <;> cases decide (m.lab ≤ 1000) <;> rfl
theorem rd_V (a b : Int) (c : Bool) : ((a != b) || !c) = !((a == b) && c) := by rw [Bool.not_and]; rfl
theorem meas_bd {ms : List Meas} (h : measOk ms = true) : (1 ≤ ms.length ∧ ms.length ≤ 8) ∧ ∀ m ∈ ms, (0 ≤ m.tol ∧ m.tol ≤ 1000) ∧ (1 ≤ m.lab ∧ m.lab ≤ 1000) := by
  simp only [measOk, btw, Bool.and_eq_true, decide_eq_true_eq, List.all_eq_true, meas1] at h
  exact ⟨by omega, fun m hm => h.2 m hm⟩
theorem rdOk_bd {k : Nat} {l : List Int} (h : rdOk k l = true) : l.length = k ∧ ∀ x ∈ l, -1 ≤ x ∧ x ≤ 100000 := by
  simp only [rdOk, rd1, btw, Bool.and_eq_true, decide_eq_true_eq, List.all_eq_true, beq_iff_eq] at h
  exact ⟨by omega, h.2⟩
theorem meas_0 {ms : List Meas} (h : (measE ms != 0) = false) : measOk ms = true := by
  unfold measE at h; cases hm : measOk ms with
  | true => rfl
  | false => rw [hm] at h; cases h
theorem meas_no {ms : List Meas} (h : (measE ms != 0) = true) : measOk ms = false := by
  unfold measE at h; cases hm : measOk ms with
  | false => rfl
  | true => rw [hm] at h; cases h
theorem rds_0 {k : Nat} {ls : List ListV} (h : (rdsE k ls != 0) = false) : ls.all (rdOkV k) = true := by
  unfold rdsE at h; cases hm : ls.all (rdOkV k) with
  | true => rfl
  | false => rw [hm] at h; cases h
theorem rds_no {k : Nat} {ls : List ListV} (h : (rdsE k ls != 0) = true) : ls.all (rdOkV k) = false := by
  unfold rdsE at h; cases hm : ls.all (rdOkV k) with
  | false => rfl
  | true => rw [hm] at h; cases h
theorem agr_no1 {ms : List Meas} {a b : List Int} (h : measOk ms = false) : AgrE ms a b = 12 ∧ AgrB ms a b = false := by
  have e : AgrE ms a b = 12 := by rw [AgrE, h]; rfl
  exact ⟨e, by rw [AgrB, e]; rfl⟩
theorem agr_no2 {ms : List Meas} {a b : List Int} (h : measOk ms = true) (h2 : (rdOk ms.length a && rdOk ms.length b) = false) : AgrE ms a b = 13 ∧ AgrB ms a b = false := by
  have e : AgrE ms a b = 13 := by rw [AgrE, h, if_pos rfl, h2]; rfl
  exact ⟨e, by rw [AgrB, e]; rfl⟩
theorem agr_yes {ms : List Meas} {a b : List Int} (h : measOk ms = true) (h2 : (rdOk ms.length a && rdOk ms.length b) = true) : AgrE ms a b = 0 ∧ AgrB ms a b = agrF ms a b := by
  have e : AgrE ms a b = 0 := by rw [AgrE, h, if_pos rfl, h2]; rfl
  exact ⟨e, by rw [AgrB, e]; rfl⟩
end Go.Proofs.YtppfniekcgnmjaaGreatDoor.Pl
namespace Go.Proofs.YtppfniekcgnmjaaGreatDoor.Pl
open Go.Sx Go.RowKit
set_option maxRecDepth 20000
theorem fa208_0 : FieldIs Tryz.prog 208 0 0 1 false := ⟨⟨_, _, Tryz.underlying208, rfl, rfl, Tryz.sizeOf3, Tryz.isAgg3, by decide⟩⟩
theorem fa208_1 : FieldIs Tryz.prog 208 1 1 1 false := ⟨⟨_, _, Tryz.underlying208, rfl, rfl, Tryz.sizeOf3, Tryz.isAgg3, by decide⟩⟩
end Go.Proofs.YtppfniekcgnmjaaGreatDoor.Pl
namespace Go.Proofs.YtppfniekcgnmjaaGreatDoor.Pl
open Go.Sx Go.RowKit
set_option maxRecDepth 20000
theorem k_clR (n : Int) (w : World)  : Calls Tryz.prog 151 #[.int .i64 n] w (fun e w' => e = .returned (.bool (!(rd1 n))) ∧ Grow w w') := by
  refine enter_pure (args := [.int .i64 n]) [] Tryz.func151 rfl (by rw [Tryz.ntmps151]; simp) (by simp) ?_
  refine cj_seq ?_
  refine cj_regionG (gj_step (y_assign rfl) rfl rfl rfl (gj_nil ?_))
  refine ej_th (cj_seq ?_)
  refine cj_regionG ?_
  refine gj_step (y_move rfl) rfl rfl rfl (?_)
  refine gj_step (y_call Tryz.call121 rfl (fun w hp => k_within1 _ _ _ w)) rfl rfl rfl ?_
  refine gj_step (y_not rfl) rfl rfl rfl (gj_step (y_assign rfl) rfl rfl rfl (?_))
  refine gj_nil ?_
  refine ej_th (cj_ret ?_)
  exact ej_ret1 rfl Tryz.results151 rfl (fun w' hp => ⟨rfl, hp.below⟩)

theorem k_IndexFR (l : List Int) (A : Option Addr) (c : Nat) (w : World) (hl : Rd w 1 enInt A l) : Calls Tryz.prog 143 #[.slice A l.length c, .func (.func 151) #[] #[]] w (fun e w' => e = .returned (.int .i64 (firstBad l 0)) ∧ Grow w w') := by
  have hlen := hl.len
  refine enter_pure (args := [.slice A l.length c, .func (.func 151) #[] #[]]) [sl (fun b => b < w.heap.size) 1 enInt A l] Tryz.func143 rfl (by rw [Tryz.ntmps143]; simp) (fun g hg => by simp at hg; subst hg; exact ⟨hl, fun _ h => h⟩) ?_
  refine cj_seq ?_
  refine cj_regionG (gj_step (y_assign rfl) rfl rfl rfl (gj_nil ?_))
  refine ej_th (cj_seq (cj_seq ?_))
  refine cj_regionG (gj_step (y_move rfl) rfl rfl rfl (gj_step (y_lenA Tryz.underlying26 rfl) rfl rfl rfl (gj_step (y_move rfl) rfl rfl rfl (gj_nil ?_))))
  refine ej_th (cj_block ?_)
  refine cj_lpic (X := Nat) [(0, _), (1, _), (7, _)] (fun k => k ≤ l.length ∧ firstBad (l.drop k) k = firstBad l 0) (fun k => [(8, .int .i64 k)]) (fun k => l.length - k) 0 (⟨Nat.zero_le _, rfl⟩) ⟨rfl, rfl, rfl, rfl, trivial⟩ ?_
  rintro k ⟨hk, hsk⟩
  dsimp only [List.cons_append, List.nil_append]
  refine cj_seq ?_
  refine cj_regionG (gj_step (y_lss rfl rfl) rfl rfl rfl (gj_nil ?_))
  refine ej_th (cj_seq ?_)
  refine cj_cond rfl (fun h9 => ?_) (fun h9 => ?_)
  · have h9b := h9
    try simp only [sxb] at h9
    obtain ⟨x, hx⟩ : ∃ x, l[k]? = some x := ⟨_, List.getElem?_eq_getElem (by omega)⟩
    rw [firstBad_drop l k x hx] at hsk
    refine cj_skip (ej_th (cj_seq (cj_block (cj_seq ?_))))
    refine cj_regionG (gj_step (y_move rfl) rfl rfl rfl (gj_step (y_assign rfl) rfl rfl rfl (gj_nil ?_)))
    refine ej_th (cj_seq ?_)
    refine cj_regionG ?_
    refine gj_step (y_move rfl) rfl rfl rfl (gj_step (y_move rfl) rfl rfl rfl (gj_step (y_move rfl) rfl rfl rfl (gj_step (y_ixR (reads_sl) Tryz.underlying26 Tryz.sizeOf3 rfl rfl (⟨by omega, by omega⟩)) rfl rfl rfl (gj_step (y_ld0 (reads_sl) Tryz.isAgg3 rfl (hx) rfl) rfl rfl rfl (?_)))))
    refine gj_step (y_callV Tryz.call151 rfl rfl (fun w hp => k_clR x w)) rfl rfl rfl ?_
    refine gj_nil ?_
    refine ej_th ?_
    refine cj_cond rfl (fun h16 => ?_) (fun h16 => ?_)
    · have h16b := h16
      try simp only [sxb] at h16
      refine cj_seq ?_
      refine cj_regionG (gj_step (y_move rfl) rfl rfl rfl (gj_step (y_assign rfl) rfl rfl rfl (gj_nil ?_)))
      refine ej_th (cj_ret (ej_blk_ret (ej_then_ret (ej_then_ret (ej_blk_ret (ej_then_ret ?_))))))
      refine ej_ret1 rfl Tryz.results143 rfl (fun w' hp => ⟨?_, hp.below⟩)
      rw [← hsk, if_pos h16]
    · have h16b := h16
      try simp only [sxb] at h16
      refine cj_skip (ej_blk (ej_th ?_))
      refine cj_regionG (gj_step (y_add rfl rfl (by omega)) rfl rfl rfl (gj_step (y_move rfl) rfl rfl rfl (gj_nil ?_)))
      exact ej_nx (k + 1) (by omega) ⟨by omega, by rw [← hsk, if_neg (by simp [h16])]⟩ ⟨rfl, rfl, rfl, rfl, trivial⟩
  · have h9b := h9
    try simp only [sxb] at h9
    refine cj_exit (ej_then_exit (ej_then_exit (ej_blk_hit (ej_th (cj_seq ?_)))))
    refine cj_regionG (gj_step (y_assign rfl) rfl rfl rfl (gj_nil ?_))
    refine ej_th (cj_ret ?_)
    refine ej_ret1 rfl Tryz.results143 rfl (fun w' hp => ⟨?_, hp.below⟩)
    rw [← hsk, List.drop_of_length_le (by omega)]; rfl

theorem k_ContainsFR (l : List Int) (A : Option Addr) (c : Nat) (w : World) (hl : Rd w 1 enInt A l) : Calls Tryz.prog 110 #[.slice A l.length c, .func (.func 151) #[] #[]] w (fun e w' => e = .returned (.bool (!(l.all rd1))) ∧ Grow w w') := by
  refine enter_pure (args := [.slice A l.length c, .func (.func 151) #[] #[]]) [sl (fun b => b < w.heap.size) 1 enInt A l] Tryz.func110 rfl (by rw [Tryz.ntmps110]; simp) (fun g hg => by simp at hg; subst hg; exact ⟨hl, fun _ h => h⟩) ?_
  refine cj_seq ?_
  refine cj_regionG (gj_step (y_assign rfl) rfl rfl rfl (gj_nil ?_))
  refine ej_th (cj_seq ?_)
  refine cj_regionG ?_
  refine gj_step (y_move rfl) rfl rfl rfl (gj_step (y_move rfl) rfl rfl rfl (?_))
  refine gj_step (y_call Tryz.call143 rfl (fun w hp => k_IndexFR l A c w hp.rd)) rfl rfl rfl ?_
  refine gj_step (y_geq rfl rfl) rfl rfl rfl (gj_step (y_assign rfl) rfl rfl rfl (?_))
  refine gj_nil ?_
  refine ej_th (cj_ret ?_)
  refine ej_ret1 rfl Tryz.results110 rfl (fun w' hp => ⟨?_, hp.below⟩)
  rw [firstBad_all]

theorem k_IndexI (l : List Int) (A : Option Addr) (c : Nat) (n : Int) (w : World) (hl : Rd w 1 enInt A l) : Calls Tryz.prog 152 #[.slice A l.length c, .int .i64 n] w (fun e w' => e = .returned (.int .i64 (seek l n 0)) ∧ Grow w w') := by
  have hlen := hl.len
  refine enter_pure (args := [.slice A l.length c, .int .i64 n]) [sl (fun b => b < w.heap.size) 1 enInt A l] Tryz.func152 rfl (by rw [Tryz.ntmps152]; simp) (fun g hg => by simp at hg; subst hg; exact ⟨hl, fun _ h => h⟩) ?_
  refine cj_seq ?_
  refine cj_regionG (gj_step (y_assign rfl) rfl rfl rfl (gj_nil ?_))
  refine ej_th (cj_seq (cj_seq ?_))
  refine cj_regionG (gj_step (y_move rfl) rfl rfl rfl (gj_step (y_lenA Tryz.underlying26 rfl) rfl rfl rfl (gj_step (y_move rfl) rfl rfl rfl (gj_nil ?_))))
  refine ej_th (cj_block ?_)
  refine cj_lpic (X := Nat) [(0, _), (1, _), (7, _)] (fun k => k ≤ l.length ∧ seek (l.drop k) n k = seek l n 0) (fun k => [(8, .int .i64 k)]) (fun k => l.length - k) 0 (⟨Nat.zero_le _, rfl⟩) ⟨rfl, rfl, rfl, rfl, trivial⟩ ?_
  rintro k ⟨hk, hsk⟩
  dsimp only [List.cons_append, List.nil_append]
  refine cj_seq ?_
  refine cj_regionG (gj_step (y_lss rfl rfl) rfl rfl rfl (gj_nil ?_))
  refine ej_th (cj_seq ?_)
  refine cj_cond rfl (fun h9 => ?_) (fun h9 => ?_)
  · have h9b := h9
    try simp only [sxb] at h9
    obtain ⟨x, hx⟩ : ∃ x, l[k]? = some x := ⟨_, List.getElem?_eq_getElem (by omega)⟩
    rw [seek_drop l n k x hx] at hsk
    refine cj_skip (ej_th (cj_seq (cj_block (cj_seq ?_))))
    refine cj_regionG (gj_step (y_move rfl) rfl rfl rfl (gj_step (y_assign rfl) rfl rfl rfl (gj_nil ?_)))
    refine ej_th (cj_seq ?_)
    refine cj_regionG (gj_step (y_move rfl) rfl rfl rfl (gj_step (y_move rfl) rfl rfl rfl (gj_step (y_move rfl) rfl rfl rfl (gj_step (y_ixR (reads_sl) Tryz.underlying26 Tryz.sizeOf3 rfl rfl (⟨by omega, by omega⟩)) rfl rfl rfl (gj_step (y_ld0 (reads_sl) Tryz.isAgg3 rfl (hx) rfl) rfl rfl rfl (gj_step (y_eql rfl rfl) rfl rfl rfl (gj_nil ?_)))))))
    refine ej_th ?_
    refine cj_cond rfl (fun h16 => ?_) (fun h16 => ?_)
    · have h16b := h16
      try simp only [sxb] at h16
      refine cj_seq ?_
      refine cj_regionG (gj_step (y_move rfl) rfl rfl rfl (gj_step (y_assign rfl) rfl rfl rfl (gj_nil ?_)))
      refine ej_th (cj_ret (ej_blk_ret (ej_then_ret (ej_then_ret (ej_blk_ret (ej_then_ret ?_))))))
      refine ej_ret1 rfl Tryz.results152 rfl (fun w' hp => ⟨?_, hp.below⟩)
      rw [← hsk, if_pos h16.symm]
    · have h16b := h16
      try simp only [sxb] at h16
      refine cj_skip (ej_blk (ej_th ?_))
      refine cj_regionG (gj_step (y_add rfl rfl (by omega)) rfl rfl rfl (gj_step (y_move rfl) rfl rfl rfl (gj_nil ?_)))
      exact ej_nx (k + 1) (by omega) ⟨by omega, by rw [← hsk, if_neg (fun e => h16 e.symm)]⟩ ⟨rfl, rfl, rfl, rfl, trivial⟩
  · have h9b := h9
    try simp only [sxb] at h9
    refine cj_exit (ej_then_exit (ej_then_exit (ej_blk_hit (ej_th (cj_seq ?_)))))
    refine cj_regionG (gj_step (y_assign rfl) rfl rfl rfl (gj_nil ?_))
    refine ej_th (cj_ret ?_)
    refine ej_ret1 rfl Tryz.results152 rfl (fun w' hp => ⟨?_, hp.below⟩)
    rw [← hsk, List.drop_of_length_le (by omega)]; rfl

theorem k_CheckM (ms : List Meas) (A : Option Addr) (c : Nat) (w : World) (hm : Rd w 2 encMe A ms) : Calls Tryz.prog 119 #[.slice A ms.length c] w (fun e w' => e = .returned (.int .i64 (measE ms)) ∧ Grow w w') := by
  have hlen := hm.len
  refine enter_pure (args := [.slice A ms.length c]) [sl (fun b => b < w.heap.size) 2 encMe A ms] Tryz.func119 rfl (by rw [Tryz.ntmps119]; simp) (fun g hg => by simp at hg; subst hg; exact ⟨hm, fun _ h => h⟩) ?_
  refine cj_seq ?_
  refine cj_regionG (gj_step (y_assign rfl) rfl rfl rfl (gj_nil ?_))
  refine ej_th (cj_seq (cj_seq ?_))
  refine cj_regionG ?_
  refine gj_step (y_move rfl) rfl rfl rfl (gj_step (y_lenA Tryz.underlying209 rfl) rfl rfl rfl (?_))
  refine gj_step (y_call Tryz.call121 rfl (fun w hp => k_within1 _ _ _ w)) rfl rfl rfl ?_
  refine gj_step (y_not rfl) rfl rfl rfl (?_)
  refine gj_nil ?_
  refine ej_th ?_
  refine cj_cond rfl (fun h8 => ?_) (fun h8 => ?_)
  · have h8b := h8
    try simp only [sxb] at h8
    refine cj_seq ?_
    refine cj_regionG (gj_step (y_assign rfl) rfl rfl rfl (gj_nil ?_))
    refine ej_th (cj_ret (ej_then_ret ?_))
    refine ej_ret1 rfl Tryz.results119 rfl (fun w' hp => ⟨?_, hp.below⟩)
    rw [measE, show measOk ms = false by rw [measOk, show btw 1 ms.length 8 = false from not_t h8b]; rfl]; rfl
  · have h8b := h8
    try simp only [sxb] at h8
    refine cj_skip (ej_th (cj_seq (cj_seq ?_)))
    refine cj_regionG (gj_step (y_move rfl) rfl rfl rfl (gj_step (y_lenA Tryz.underlying209 rfl) rfl rfl rfl (gj_step (y_move rfl) rfl rfl rfl (gj_nil ?_))))
    refine ej_th (cj_block ?_)
    refine cj_lpic (X := Nat) [(9, _), (10, _)] (fun k => k ≤ ms.length ∧ (ms.drop k).all meas1 = ms.all meas1) (fun k => [(11, .int .i64 k)]) (fun k => ms.length - k) 0 (⟨Nat.zero_le _, rfl⟩) ⟨rfl, rfl, rfl, trivial⟩ ?_
    rintro k ⟨hk, hsk⟩
    dsimp only [List.cons_append, List.nil_append]
    refine cj_seq ?_
    refine cj_regionG (gj_step (y_lss rfl rfl) rfl rfl rfl (gj_nil ?_))
    refine ej_th (cj_seq ?_)
    refine cj_cond rfl (fun h12 => ?_) (fun h12 => ?_)
    · have h12b := h12
      try simp only [sxb] at h12
      obtain ⟨m, hx⟩ : ∃ m, ms[k]? = some m := ⟨_, List.getElem?_eq_getElem (by omega)⟩
      rw [all_drop meas1 ms k m hx] at hsk
      refine cj_skip (ej_th (cj_seq (cj_block (cj_seq (cj_region ?_)))))
      refine oj_step (y_ixR (reads_sl) Tryz.underlying209 Tryz.sizeOf208 rfl rfl (⟨by omega, by omega⟩)) rfl rfl rfl ?_
      refine oj_step (y_ldW (reads_sl) Tryz.isAgg208 Tryz.sizeOf208 rfl (hx) (fun _ => rfl)) rfl rfl rfl ?_
      refine oj_alloc Tryz.zeroValue208 rfl rfl (fun b4 => ?_)
      refine oj_store rfl rfl rfl rfl Tryz.sizeOf208 rfl ?_
      refine oj_nil ?_
      refine ej_th (cj_seq ?_)
      refine cj_regionG ?_
      refine gj_step (y_fa0 fa208_0 rfl) rfl rfl rfl (gj_step (y_load1 Tryz.isAgg3 rfl rfl) rfl rfl rfl (?_))
      refine gj_step (y_call Tryz.call121 rfl (fun w hp => k_within1 _ _ _ w)) rfl rfl rfl ?_
      refine gj_step (y_not rfl) rfl rfl rfl (gj_step (y_move rfl) rfl rfl rfl (?_))
      refine gj_g 4 19 23 rfl rfl rfl rfl (fun hg19 => gj_yes rfl rfl rfl (y_fa fa208_1 rfl) rfl rfl (gj_yes rfl rfl rfl (y_load1 Tryz.isAgg3 rfl rfl) rfl rfl (gj_yes rfl rfl rfl (y_call Tryz.call121 rfl (fun w hp => k_within1 _ _ _ w)) rfl rfl (gj_yes rfl rfl rfl (y_not rfl) rfl rfl (gj_nil rfl))))) ?_
      refine gj_step (y_or rfl rfl rfl) rfl rfl rfl (?_)
      refine gj_nil ?_
      refine ej_th ?_
      refine cj_cond rfl (fun h24 => ?_) (fun h24 => ?_)
      · have h24b := h24
        try simp only [sxb] at h24
        refine cj_seq ?_
        refine cj_regionG (gj_step (y_assign rfl) rfl rfl rfl (gj_nil ?_))
        refine ej_th (cj_ret (ej_blk_ret (ej_then_ret (ej_then_ret (ej_blk_ret (ej_then_ret ?_))))))
        refine ej_ret1 rfl Tryz.results119 rfl (fun w' hp => ⟨?_, hp.below⟩)
        rw [measE, show measOk ms = false by rw [measOk, ← hsk, not_t ((meas1_V m).symm.trans h24b)]; simp]; rfl
      · have h24b := h24
        try simp only [sxb] at h24
        refine cj_skip (ej_blk (ej_th ?_))
        refine cj_regionG (gj_step (y_add rfl rfl (by omega)) rfl rfl rfl (gj_step (y_move rfl) rfl rfl rfl (gj_nil ?_)))
        exact ej_nx (k + 1) (by omega) ⟨by omega, by rw [← hsk, not_f ((meas1_V m).symm.trans h24b), Bool.true_and]⟩ ⟨rfl, rfl, rfl, trivial⟩
    · have h12b := h12
      try simp only [sxb] at h12
      refine cj_exit (ej_then_exit (ej_then_exit (ej_blk_hit (ej_th (cj_seq ?_)))))
      refine cj_regionG (gj_step (y_assign rfl) rfl rfl rfl (gj_nil ?_))
      refine ej_th (cj_ret ?_)
      refine ej_ret1 rfl Tryz.results119 rfl (fun w' hp => ⟨?_, hp.below⟩)
      rw [measE, show measOk ms = true by rw [measOk, show btw 1 ms.length 8 = true from not_f h8b, ← hsk, List.drop_of_length_le (by omega)]; rfl]; rfl

theorem k_readings (ms : List Meas) (A : Option Addr) (c : Nat) (ls : List ListV) (B : Option Addr) (d : Nat) (w : World) (hl : Rd w 1 encLs B ls) (hgl : ∀ r ∈ ls, GoodL w r) : Calls Tryz.prog 120 #[.slice A ms.length c, .slice B ls.length d] w (fun e w' => e = .returned (.int .i64 (rdsE ms.length ls)) ∧ Grow w w') := by
  have hlen := hl.len
  refine enter_pure (args := [.slice A ms.length c, .slice B ls.length d]) [sl (fun b => b < w.heap.size) 1 encLs B ls] Tryz.func120 rfl (by rw [Tryz.ntmps120]; simp) (fun g hg => by simp at hg; subst hg; exact ⟨hl, fun _ h => h⟩) ?_
  refine cj_seq ?_
  refine cj_regionG (gj_step (y_assign rfl) rfl rfl rfl (gj_nil ?_))
  refine ej_th (cj_seq (cj_seq ?_))
  refine cj_regionG (gj_step (y_move rfl) rfl rfl rfl (gj_step (y_lenA Tryz.underlying134 rfl) rfl rfl rfl (gj_step (y_move rfl) rfl rfl rfl (gj_nil ?_))))
  refine ej_th (cj_block ?_)
  refine cj_lpic (X := Nat) [(0, _), (7, _), (8, _)] (fun k => k ≤ ls.length ∧ (ls.drop k).all (rdOkV ms.length) = ls.all (rdOkV ms.length)) (fun k => [(9, .int .i64 k)]) (fun k => ls.length - k) 0 (⟨Nat.zero_le _, rfl⟩) ⟨rfl, rfl, rfl, rfl, trivial⟩ ?_
  rintro k ⟨hk, hsk⟩
  dsimp only [List.cons_append, List.nil_append]
  refine cj_seq ?_
  refine cj_regionG (gj_step (y_lss rfl rfl) rfl rfl rfl (gj_nil ?_))
  refine ej_th (cj_seq ?_)
  refine cj_cond rfl (fun h10 => ?_) (fun h10 => ?_)
  · have h10b := h10
    try simp only [sxb] at h10
    obtain ⟨r, hx⟩ : ∃ r, ls[k]? = some r := ⟨_, List.getElem?_eq_getElem (by omega)⟩
    rw [all_drop (rdOkV ms.length) ls k r hx] at hsk
    have hgr := hgl r (List.mem_of_getElem? hx)
    have hl2 := hgr.len
    refine cj_rd hgr (fun _ h => h) ?_
    refine cj_skip (ej_th (cj_seq (cj_block (cj_seq ?_))))
    refine cj_regionG (gj_step (y_ixR (reads_sl) Tryz.underlying134 Tryz.sizeOf26 rfl rfl (⟨by omega, by omega⟩)) rfl rfl rfl (gj_step (y_ld0 (reads_sl) Tryz.isAgg26 rfl (hx) rfl) rfl rfl rfl (gj_step (y_assign rfl) rfl rfl rfl (gj_nil ?_))))
    refine ej_th (cj_seq ?_)
    refine cj_regionG ?_
    refine gj_step (y_move rfl) rfl rfl rfl (gj_step (y_lenA Tryz.underlying26 rfl) rfl rfl rfl (gj_step (y_move rfl) rfl rfl rfl (gj_step (y_lenA Tryz.underlying209 rfl) rfl rfl rfl (gj_step (y_neq rfl rfl) rfl rfl rfl (gj_step (y_move rfl) rfl rfl rfl (?_))))))
    refine gj_g 2 18 20 rfl rfl rfl rfl (fun hg18 => gj_yes rfl rfl rfl (y_move rfl) rfl rfl (gj_yes rfl rfl rfl (y_call Tryz.call110 rfl (fun w hp => k_ContainsFR r.l _ _ w hp.rd)) rfl rfl (gj_nil rfl))) ?_
    refine gj_step (y_or rfl rfl rfl) rfl rfl rfl (?_)
    refine gj_nil ?_
    refine ej_th ?_
    refine cj_cond rfl (fun h21 => ?_) (fun h21 => ?_)
    · have h21b := h21
      try simp only [sxb] at h21
      refine cj_seq ?_
      refine cj_regionG (gj_step (y_assign rfl) rfl rfl rfl (gj_nil ?_))
      refine ej_th (cj_ret (ej_blk_ret (ej_then_ret (ej_then_ret (ej_blk_ret (ej_then_ret ?_))))))
      refine ej_ret1 rfl Tryz.results120 rfl (fun w' hp => ⟨?_, hp.below⟩)
      rw [rdsE, ← hsk, show rdOkV ms.length r = false from not_t ((rd_V _ _ _).symm.trans h21b)]; rfl
    · have h21b := h21
      try simp only [sxb] at h21
      refine cj_skip (ej_blk (ej_th ?_))
      refine cj_regionG (gj_step (y_add rfl rfl (by omega)) rfl rfl rfl (gj_step (y_move rfl) rfl rfl rfl (gj_nil ?_)))
      exact ej_nx (k + 1) (by omega) ⟨by omega, by rw [← hsk, show rdOkV ms.length r = true from not_f ((rd_V _ _ _).symm.trans h21b), Bool.true_and]⟩ ⟨rfl, rfl, rfl, rfl, trivial⟩
  · have h10b := h10
    try simp only [sxb] at h10
    refine cj_exit (ej_then_exit (ej_then_exit (ej_blk_hit (ej_th (cj_seq ?_)))))
    refine cj_regionG (gj_step (y_assign rfl) rfl rfl rfl (gj_nil ?_))
    refine ej_th (cj_ret ?_)
    refine ej_ret1 rfl Tryz.results120 rfl (fun w' hp => ⟨?_, hp.below⟩)
    rw [rdsE, ← hsk, List.drop_of_length_le (by omega)]; rfl

end Go.Proofs.YtppfniekcgnmjaaGreatDoor.Pl
namespace Go.Proofs.YtppfniekcgnmjaaGreatDoor.Pl
open Go.Sx Go.RowKit
set_option maxRecDepth 20000

end Go.Proofs.YtppfniekcgnmjaaGreatDoor.Pl
namespace Go.Proofs.YtppfniekcgnmjaaGreatDoor.Pl
open Go.Sx Go.RowKit
set_option maxRecDepth 20000
end Go.Proofs.YtppfniekcgnmjaaGreatDoor.Pl
namespace Go.Proofs.YtppfniekcgnmjaaGreatDoor.Pl
open Go.Sx Go.RowKit
set_option maxRecDepth 20000

end Go.Proofs.YtppfniekcgnmjaaGreatDoor.Pl
namespace Go.Proofs.YtppfniekcgnmjaaGreatDoor.Pl
open Go.Sx Go.RowKit
set_option maxRecDepth 20000
theorem k_Agree (ms : List Meas) (A : Option Addr) (c : Nat) (a b : List Int) (Aa Ab : Option Addr) (ca cb : Nat) (w : World) (hm : Rd w 2 encMe A ms) (ha : Rd w 1 enInt Aa a) (hb : Rd w 1 enInt Ab b) : Calls Tryz.prog 87 #[.slice A ms.length c, .slice Aa a.length ca, .slice Ab b.length cb] w (fun e w' => e = .returned (.tuple #[.bool (AgrB ms a b), .int .i64 (AgrE ms a b)]) ∧ Grow w w') := by
  have hlm := hm.len
  refine enter_pure (args := [.slice A ms.length c, .slice Aa a.length ca, .slice Ab b.length cb]) [sl (fun b => b < w.heap.size) 2 encMe A ms, sl (fun b => b < w.heap.size) 1 enInt Aa a, sl (fun b => b < w.heap.size) 1 enInt Ab b] Tryz.func87 rfl (by rw [Tryz.ntmps87]; simp) (fun g hg => by simp at hg; rcases hg with rfl | rfl | rfl; exact ⟨hm, fun _ h => h⟩; exact ⟨ha, fun _ h => h⟩; exact ⟨hb, fun _ h => h⟩) ?_
  refine cj_seq ?_
  refine cj_regionG (gj_step (y_assign rfl) rfl rfl rfl (gj_step (y_assign rfl) rfl rfl rfl (gj_nil ?_)))
  refine ej_th (cj_seq (cj_seq ?_))
  refine cj_regionG ?_
  refine gj_step (y_move rfl) rfl rfl rfl (?_)
  refine gj_step (y_call Tryz.call119 rfl (fun w hp => k_CheckM _ _ _ w hp.rd)) rfl rfl rfl ?_
  refine gj_step (y_assign rfl) rfl rfl rfl (?_)
  refine gj_nil ?_
  refine ej_th (cj_seq ?_)
  refine cj_regionG (gj_step (y_move rfl) rfl rfl rfl (gj_step (y_neq rfl rfl) rfl rfl rfl (gj_nil ?_)))
  refine ej_th ?_
  refine cj_cond rfl (fun h15 => ?_) (fun h15 => ?_)
  · have h15b := h15
    try simp only [sxb] at h15
    have hno := meas_no h15b
    refine cj_seq ?_
    refine cj_regionG (gj_step (y_move rfl) rfl rfl rfl (gj_step (y_assign rfl) rfl rfl rfl (gj_step (y_assign rfl) rfl rfl rfl (gj_nil ?_))))
    refine ej_th (cj_ret (ej_then_ret ?_))
    obtain ⟨e1, e2⟩ := agr_no1 (a := a) (b := b) hno
    exact ej_ret2 rfl Tryz.results87 rfl rfl (fun w' hp => ⟨by rw [e2, e1, measE, hno]; rfl, hp.below⟩)
  · have h15b := h15
    try simp only [sxb] at h15
    have hmo := meas_0 h15b
    obtain ⟨hml, hmb⟩ := meas_bd hmo
    refine cj_skip (ej_th (cj_seq (cj_seq (cj_region ?_))))
    refine oj_step (y_move rfl) rfl rfl rfl ?_
    refine oj_step (y_move rfl) rfl rfl rfl ?_
    refine oj_step (y_move rfl) rfl rfl rfl ?_
    refine oj_buildSlice (cs := [.slice Aa a.length ca, .slice Ab b.length cb]) [.slice none 0 0, .slice none 0 0] Tryz.underlying134 Tryz.sizeOf26 Tryz.zeroValue26 rfl rfl (by kernel_rfl) (by kernel_rfl) rfl (fun b20 => ?_)
    refine oj_step (y_call Tryz.call120 rfl (fun w hp => k_readings ms A c [⟨Aa, ca, a⟩, ⟨Ab, cb, b⟩] (some ⟨b20, 0, none⟩) 2 w (hp.rdLit (sz := 1) (enc := encLs) [⟨Aa, ca, a⟩, ⟨Ab, cb, b⟩] (fun _ => rfl) rfl (by unfold maxLen; simp)) (fun r hr => by
      simp only [List.mem_cons, List.mem_nil_iff, or_false] at hr
      rcases hr with rfl | rfl
      · exact ha.mono hp.below
      · exact hb.mono hp.below))) rfl rfl rfl ?_
    refine oj_step (y_assign rfl) rfl rfl rfl ?_
    refine oj_nil ?_
    refine ej_th (cj_seq ?_)
    refine cj_regionG (gj_step (y_move rfl) rfl rfl rfl (gj_step (y_neq rfl rfl) rfl rfl rfl (gj_nil ?_)))
    refine ej_th ?_
    refine cj_cond rfl (fun h23 => ?_) (fun h23 => ?_)
    · have h23b := h23
      try simp only [sxb] at h23
      have hro : (rdOk ms.length a && rdOk ms.length b) = false := by have := rds_no h23b; simpa [rdOkV] using this
      refine cj_seq ?_
      refine cj_regionG (gj_step (y_move rfl) rfl rfl rfl (gj_step (y_assign rfl) rfl rfl rfl (gj_step (y_assign rfl) rfl rfl rfl (gj_nil ?_))))
      refine ej_th (cj_ret (ej_then_ret ?_))
      have hr0 := rds_no h23b
      obtain ⟨e1, e2⟩ := agr_no2 hmo hro
      exact ej_ret2 rfl Tryz.results87 rfl rfl (fun w' hp => ⟨by rw [e2, e1, rdsE, hr0]; rfl, hp.below⟩)
    · have h23b := h23
      try simp only [sxb] at h23
      have hro : (rdOk ms.length a && rdOk ms.length b) = true := by have := rds_0 h23b; simpa [rdOkV] using this
      have hrp := Bool.and_eq_true_iff.1 hro
      have hab := rdOk_bd hrp.1
      have hbb := rdOk_bd hrp.2
      refine cj_skip (ej_th (cj_seq (cj_seq ?_)))
      refine cj_regionG (gj_step (y_move rfl) rfl rfl rfl (gj_step (y_lenA Tryz.underlying209 rfl) rfl rfl rfl (gj_step (y_move rfl) rfl rfl rfl (gj_nil ?_))))
      refine ej_th (cj_block ?_)
      refine cj_lpic (X := Nat) [(1, _), (2, _), (25, _), (26, _)] (fun k => k ≤ ms.length ∧ agrF (ms.drop k) (a.drop k) (b.drop k) = agrF ms a b) (fun k => [(27, .int .i64 k)]) (fun k => ms.length - k) 0 (⟨Nat.zero_le _, rfl⟩) ⟨rfl, rfl, rfl, rfl, rfl, trivial⟩ ?_
      rintro k ⟨hk, hsk⟩
      dsimp only [List.cons_append, List.nil_append]
      refine cj_seq ?_
      refine cj_regionG (gj_step (y_lss rfl rfl) rfl rfl rfl (gj_nil ?_))
      refine ej_th (cj_seq ?_)
      refine cj_cond rfl (fun h28 => ?_) (fun h28 => ?_)
      · have h28b := h28
        try simp only [sxb] at h28
        obtain ⟨m, hx⟩ : ∃ m, ms[k]? = some m := ⟨_, List.getElem?_eq_getElem (by omega)⟩
        obtain ⟨p, hy⟩ : ∃ p, a[k]? = some p := ⟨_, List.getElem?_eq_getElem (by omega)⟩
        obtain ⟨q, hz⟩ : ∃ q, b[k]? = some q := ⟨_, List.getElem?_eq_getElem (by omega)⟩
        rw [agrF_drop ms a b k m p q hx hy hz] at hsk
        have hmt := hmb m (List.mem_of_getElem? hx)
        have hpb := hab.2 p (List.mem_of_getElem? hy)
        have hqb := hbb.2 q (List.mem_of_getElem? hz)
        refine cj_skip (ej_th (cj_seq (cj_block (cj_seq (cj_region ?_)))))
        refine oj_step (y_move rfl) rfl rfl rfl ?_
        refine oj_step (y_ixR (reads_sl) Tryz.underlying209 Tryz.sizeOf208 rfl rfl (⟨by omega, by omega⟩)) rfl rfl rfl ?_
        refine oj_step (y_ldW (reads_sl) Tryz.isAgg208 Tryz.sizeOf208 rfl (hx) (fun _ => rfl)) rfl rfl rfl ?_
        refine oj_alloc Tryz.zeroValue208 rfl rfl (fun b11 => ?_)
        refine oj_step (y_assign rfl) rfl rfl rfl ?_
        refine oj_store rfl rfl rfl rfl Tryz.sizeOf208 rfl ?_
        refine oj_nil ?_
        refine ej_th (cj_seq ?_)
        refine cj_draw (by kernel_rfl) (by kernel_rfl) ?_
        refine gj_step (y_move rfl) rfl rfl rfl (gj_step (y_move rfl) rfl rfl rfl (gj_step (y_ixR (reads_sl) Tryz.underlying26 Tryz.sizeOf3 rfl rfl (⟨by omega, by omega⟩)) rfl rfl rfl (gj_step (y_ld0 (reads_sl) Tryz.isAgg3 rfl (hy) rfl) rfl rfl rfl (gj_step (y_geq rfl rfl) rfl rfl rfl (gj_step (y_move rfl) rfl rfl rfl (?_))))))
        refine gj_g 5 37 42 rfl rfl rfl rfl (fun hg37 => gj_yes rfl rfl rfl (y_move rfl) rfl rfl (gj_yes rfl rfl rfl (y_move rfl) rfl rfl (gj_yes rfl rfl rfl (y_ixR (reads_sl) Tryz.underlying26 Tryz.sizeOf3 rfl rfl (⟨by omega, by omega⟩)) rfl rfl (gj_yes rfl rfl rfl (y_ld0 (reads_sl) Tryz.isAgg3 rfl (hz) rfl) rfl rfl (gj_yes rfl rfl rfl (y_geq rfl rfl) rfl rfl (gj_nil rfl)))))) ?_
        refine gj_step (y_and rfl rfl rfl) rfl rfl rfl (gj_step (y_move rfl) rfl rfl rfl (?_))
        refine gj_g 17 44 61 rfl rfl rfl rfl (fun hg44 => gj_yes rfl rfl rfl (y_move rfl) rfl rfl (gj_yes rfl rfl rfl (y_move rfl) rfl rfl (gj_yes rfl rfl rfl (y_ixR (reads_sl) Tryz.underlying26 Tryz.sizeOf3 rfl rfl (⟨by omega, by omega⟩)) rfl rfl (gj_yes rfl rfl rfl (y_ld0 (reads_sl) Tryz.isAgg3 rfl (hz) rfl) rfl rfl (gj_yes rfl rfl rfl (y_move rfl) rfl rfl (gj_yes rfl rfl rfl (y_move rfl) rfl rfl (gj_yes rfl rfl rfl (y_ixR (reads_sl) Tryz.underlying26 Tryz.sizeOf3 rfl rfl (⟨by omega, by omega⟩)) rfl rfl (gj_yes rfl rfl rfl (y_ld0 (reads_sl) Tryz.isAgg3 rfl (hy) rfl) rfl rfl (gj_yes rfl rfl rfl (y_sub rfl rfl (by omega)) rfl rfl (gj_yes rfl rfl rfl (y_fa0 fa208_0 rfl) rfl rfl (gj_yes rfl rfl rfl (y_load1 Tryz.isAgg3 rfl rfl) rfl rfl (gj_yes rfl rfl rfl (y_mul rfl rfl (by omega)) rfl rfl (gj_yes rfl rfl rfl (y_fa0 fa208_0 rfl) rfl rfl (gj_yes rfl rfl rfl (y_load1 Tryz.isAgg3 rfl rfl) rfl rfl (gj_yes rfl rfl rfl (y_mul rfl rfl (by omega)) rfl rfl (gj_yes rfl rfl rfl (y_call Tryz.call121 rfl (fun w hp => k_within1 _ _ _ w)) rfl rfl (gj_yes rfl rfl rfl (y_not rfl) rfl rfl (gj_nil rfl)))))))))))))))))) ?_
        refine gj_step (y_and rfl rfl rfl) rfl rfl rfl (?_)
        refine gj_nil ?_
        refine ej_th ?_
        refine cj_cond rfl (fun h62 => ?_) (fun h62 => ?_)
        · have h62b := h62
          try simp only [sxb] at h62
          refine cj_seq ?_
          refine cj_regionG (gj_step (y_assign rfl) rfl rfl rfl (gj_step (y_assign rfl) rfl rfl rfl (gj_nil ?_)))
          refine ej_th (cj_ret (ej_blk_ret (ej_then_ret (ej_then_ret (ej_blk_ret (ej_then_ret ?_))))))
          obtain ⟨e1, e2⟩ := agr_yes hmo hro
          rw [← hsk, show disag m p q = true from h62b] at e2
          exact ej_ret2 rfl Tryz.results87 rfl rfl (fun w' hp => ⟨by rw [e2, e1 ]; rfl, hp.below⟩)
        · have h62b := h62
          try simp only [sxb] at h62
          refine cj_skip (ej_blk (ej_th ?_))
          refine cj_regionG (gj_step (y_add rfl rfl (by omega)) rfl rfl rfl (gj_step (y_move rfl) rfl rfl rfl (gj_nil ?_)))
          exact ej_nx (k + 1) (by omega) ⟨by omega, by rw [← hsk, show disag m p q = false from h62b]; rfl⟩ ⟨rfl, rfl, rfl, rfl, rfl, trivial⟩
      · have h28b := h28
        try simp only [sxb] at h28
        refine cj_exit (ej_then_exit (ej_then_exit (ej_blk_hit (ej_th (cj_seq ?_)))))
        refine cj_regionG (gj_step (y_assign rfl) rfl rfl rfl (gj_step (y_assign rfl) rfl rfl rfl (gj_nil ?_)))
        refine ej_th (cj_ret ?_)
        obtain ⟨e1, e2⟩ := agr_yes hmo hro
        rw [← hsk, List.drop_of_length_le (show ms.length ≤ k by omega)] at e2
        exact ej_ret2 rfl Tryz.results87 rfl rfl (fun w' hp => ⟨by rw [e2, e1 ]; rfl, hp.below⟩)

end Go.Proofs.YtppfniekcgnmjaaGreatDoor.Pl
namespace Go.Sx
open Go.RowKit
section
variable {K V : Type} [DecidableEq K]
/-- What is asked of keys that are compared one by one. -/
structure KeyA (P : Program) (kt : TypeId) (kd : TypeDesc) (ek : K → Value) : Prop where
  und : P.underlying kt = some kd
  now : ∀ a b, Instr.sameNow kd (ek a) (ek b) = none
  eq : ∀ a b w, (Op.equal kt (ek a) (ek b)).run P w = .ok (decide (b = a)) w
  bits : ∀ a, Instr.sameBits 10000 (ek a) (ek a) = true
  check : ∀ c w a, (Instr.checkKey c 10000 kt (ek a)).run P w = .ok () w
variable {ek : K → Value} {ev : V → Value} {P : Program} {kt : TypeId} {kd : TypeDesc}
theorem findAsk_eq (hk : KeyA P kt kd ek) (w : World) : ∀ (es : List MapEntry) (l : List (K × V)) (k : K) (n : Nat), entOk ek ev es l → (Instr.findAsking kt (ek k) es n).run P w = .ok ((findL l k n).map fun p => (p.1, ev p.2)) w
  | [], [], _, _, _ => rfl
  | [], _ :: _, _, _, h => by simp [entOk] at h
  | _ :: _, [], _, _, h => by simp [entOk] at h
  | e :: es, p :: l, k, n, h => by
    simp only [entOk, List.map_cons, List.cons.injEq, Prod.mk.injEq] at h
    obtain ⟨⟨h1, h2⟩, h3⟩ := h
    rw [Instr.findAsking, Sem.run_bind, h1, hk.eq, Result.andThen_ok, findL]
    by_cases hp : p.1 = k
    · rw [if_pos hp, if_pos (decide_eq_true hp)]
      simp only [Sem.run_pure, Option.map_some, h2]
    · rw [if_neg hp, if_neg (by simpa using hp)]
      exact findAsk_eq hk w es l k (n + 1) h3
theorem findKey_eq (hk : KeyA P kt kd ek) (w : World) (es : List MapEntry) (l : List (K × V)) (k : K) (h : entOk ek ev es l) : (Instr.findKey kt (ek k) es).run P w = .ok ((findL l k 0).map fun p => (p.1, ev p.2)) w := by
  simp only [Instr.findKey, Sem.run_bind, run_underlying hk.und, Result.andThen_ok]
  cases es with
  | nil => cases l with
    | nil => rfl
    | cons _ _ => simp [entOk] at h
  | cons e es => cases l with
    | nil => simp [entOk] at h
    | cons p l =>
      have h' := h
      simp only [entOk, List.map_cons, List.cons.injEq, Prod.mk.injEq] at h'
      rw [show Instr.findNow kd (ek k) (e :: es) 0 = none by rw [Instr.findNow, h'.1.1, hk.now]]
      exact findAsk_eq hk w _ _ k 0 h
end
section
variable {K V : Type} [DecidableEq K] {ek : K → Value} {ev : V → Value} {kd : TypeDesc} {C : Cx} {Q : Exit → Act → World → Prop} {L : Regs} {O S : List Fact} {ops : Array Oper} {rest : List Oper} {ty : TypeId} {pos : String} {aft : Array Edge} {d : Nat} {dst : Option Tmp} {gu : Option (Nat × Bool)} {t kt et : TypeId} {x y z : Operand}
/-- What a key leads to. -/
theorem y_lookupA {b : Nat} {l : List (K × V)} {kk : K} (d0 : V) (hk : KeyA C.P kt kd ek) [h : HasMp O b ek ev l] (ht : C.P.underlying t = some (.map kt et)) (hz : ∀ w, (zeroValue et).run C.P w = .ok (ev d0) w)
    (hx : val L x = some (.map (some b))) (hy : val L y = some (ek kk)) : Yi C ⟨dst, .lookup t x y true, ty, pos, aft, gu⟩ L O S (.tuple #[ev ((getL l kk).getD d0), .bool (getL l kk).isSome]) :=
  yi_val (by intro c h; cases h) fun a w hr hp => by
    obtain ⟨es, clock, hb, he⟩ := (hp.own _ h.mem).1
    have hf := findKey_eq hk w es.toList l kk he
    have hg := findL_get l kk 0
    simp only [execOp, hr.val hx, hr.val hy, Instr.lookup, Sem.run_bind, run_underlying ht, Result.andThen_ok, run_getObj hb, Sem.run_pure, hk.check, hf]
    cases hfl : findL l kk 0 with
    | none => rw [hfl] at hg; simp only [Option.map_none] at hg; simp [← hg, hz]
    | some p => rw [hfl] at hg; simp only [Option.map_some] at hg; simp [← hg]
theorem oj_mapUpdateA {b : Nat} {l : List (K × V)} {kk : K} {v : V} {O' : List Fact} (hk : KeyA C.P kt kd ek) [hu : UpdMp O b ek ev l (mp ek ev b (putL l kk v)) O'] (ht : C.P.underlying t = some (.map kt et))
    (hx : val L x = some (.map (some b))) (hy : val L y = some (ek kk)) (hz : val L z = some (ev v)) (k : OJ C ops Q rest L O' S) : OJ C ops Q (⟨none, .mapUpdate t x y z, ty, pos, aft, none⟩ :: rest) L O S := by
  intro a w hr hp
  unfold wpListIn
  rw [if_pos (by simp [Region.wanted])]
  refine ⟨fun _ _ => trivial, ?_⟩
  rw [Oper.semAt_eq _ _ _ (by intro c h; cases h)]
  have hown := hp.own _ hu.rep.mem
  obtain ⟨es, clock, hb, he⟩ := hown.1
  have hlt : b < w.heap.size := (hown.2 b rfl).1
  have hf := findKey_eq hk w es.toList l kk he
  have key : ∃ es' clock', (execOp a.eval ⟨none, .mapUpdate t x y z, ty, pos, aft, none⟩).run C.P w = .ok .skip { w with heap := w.heap.setIfInBounds b (.map es' clock') } ∧ entOk ek ev es'.toList (putL l kk v) := by
    cases hfl : findL l kk 0 with
    | none =>
      rw [hfl] at hf
      refine ⟨es.push ⟨ek kk, ev v, clock⟩, clock + 1, ?_, ?_⟩
      · simp only [execOp, hr.val hx, hr.val hy, hr.val hz, Instr.mapUpdate, Sem.run_bind, run_underlying ht, Result.andThen_ok, run_getObj hb, hk.check, hf, Option.map_none, MapKept.run_setObj_map _ hb, Sem.run_pure]
      · unfold entOk at he ⊢
        rw [findL_none l kk 0 hfl, Array.toList_push, List.map_append, he, List.map_append]; rfl
    | some p =>
      obtain ⟨i, u⟩ := p
      rw [hfl] at hf
      obtain ⟨h1, h2⟩ := ent_put (v := v) he hfl
      refine ⟨_, clock, ?_, h2⟩
      simp only [execOp, hr.val hx, hr.val hy, hr.val hz, Instr.mapUpdate, Sem.run_bind, run_underlying ht, Result.andThen_ok, run_getObj hb, hk.check, hf, Option.map_some, Sem.run_pure, h1, Instr.keyThatStays, hk.bits, if_true, MapKept.run_setObj_map _ hb]
  obtain ⟨es', clock', hrun, he'⟩ := key
  rw [hrun]
  show wpListIn _ _ _ _ _ _ _ _
  refine k _ _ hr ?_
  refine hp.write hu.rep rfl rfl rfl (by simp) (fun c _ hc => ?_) ⟨es', clock', ?_, he'⟩ (fun i hi => ?_)
  · have hne : b ≠ c := fun e => hc e.symm
    simp [hne]
  · simp [hlt]
  · have hi' : i = b := hi
    subst hi'
    exact ⟨by simpa using hlt, .inl rfl⟩
end
/-! ### A map of which only something is said -/
section
variable {K V : Type}
/-- A map of one's own, of whose entries something is known. -/
def mpE (ek : K → Value) (ev : V → Value) (b : Nat) (p : List (K × V) → Prop) : Fact where
  fp := fun i => i = b
  P := fun w => ∃ l, p l ∧ (mp ek ev b l).P w
  stab := fun h ⟨l, h1, h2⟩ => ⟨l, h1, (mp ek ev b l).stab h h2⟩
theorem Hp.rep1 {F : Nat → Prop} {w0 w : World} {O S R : List Fact} (h : Hp F w0 O S w) {f : Fact} (f' : Fact) (ht : Take1 O f R) (hP : f'.P w) (hfp : ∀ b, f'.fp b → f.fp b) : Hp F w0 (f' :: R) S w := by
  have h1 := h.permO ht.perm
  refine ⟨h1.os, h1.tape, h1.output, h1.size, h1.fr, fun g hg => ?_, ?_, fun g hg => ⟨(h1.shared g hg).1, (h1.shared g hg).2.1, fun o ho b hb hob => ?_⟩⟩
  · rcases List.mem_cons.1 hg with rfl | hg
    · exact ⟨hP, fun b hb => (h1.own f (List.mem_cons_self ..)).2 b (hfp b hb)⟩
    · exact h1.own g (List.mem_cons_of_mem _ hg)
  · have h2 := List.pairwise_cons.1 h1.apart
    exact List.pairwise_cons.2 ⟨fun g hg b hb hgb => h2.1 g hg b (hfp b hb) hgb, h2.2⟩
  · rcases List.mem_cons.1 ho with rfl | ho
    · exact (h1.shared g hg).2.2 f (List.mem_cons_self ..) b hb (hfp b hob)
    · exact (h1.shared g hg).2.2 o (List.mem_cons_of_mem _ ho) b hb hob
variable {C : Cx} {Q : Exit → Act → World → Prop} {L : Regs} {O S R : List Fact} {ek : K → Value} {ev : V → Value} {b : Nat}
theorem cj_mpO {cd : Code} (p : List (K × V) → Prop) [ht : Take1 O (mpE ek ev b p) R] (k : ∀ l, p l → CJ C cd Q L (mp ek ev b l :: R) S) : CJ C cd Q L O S := fun a w hr hp => by
  obtain ⟨⟨l, h1, h2⟩, _⟩ := hp.ownT ht
  exact k l h1 a w hr (hp.rep1 _ ht h2 (fun _ h => h))
theorem cj_mpC {cd : Code} (p : List (K × V) → Prop) {l : List (K × V)} [ht : Take1 O (mp ek ev b l) R] (h : p l) (k : CJ C cd Q L (mpE ek ev b p :: R) S) : CJ C cd Q L O S := fun a w hr hp =>
  k a w hr (hp.rep1 _ ht ⟨l, h, (hp.ownT ht).1⟩ (fun _ h => h))
end
/-! ### Comparisons whose outcome is known; three cells as results behind a range over a function -/
section
variable {C : Cx} {L : Regs} {O S : List Fact} {dst : Option Tmp} {ty t t' : TypeId} {pos : String} {aft : Array Edge} {gu : Option (Nat × Bool)} {x y : Operand} {k : IntKind} {m n : Int}
theorem y_eqlT (hx : val L x = some (.int k m)) (hy : val L y = some (.int k n)) (h : m = n) : Yi C ⟨dst, .binOp .eql t x y t', ty, pos, aft, gu⟩ L O S (.bool true) := by
  have := y_eql (C := C) (O := O) (S := S) (dst := dst) (ty := ty) (pos := pos) (aft := aft) (gu := gu) (t := t) (t' := t') hx hy
  rwa [show (m == n) = true from beq_iff_eq.2 h] at this
theorem y_gtrT (hx : val L x = some (.int k m)) (hy : val L y = some (.int k n)) (h : n < m) : Yi C ⟨dst, .binOp .gtr t x y t', ty, pos, aft, gu⟩ L O S (.bool true) := by
  have := y_gtr (C := C) (O := O) (S := S) (dst := dst) (ty := ty) (pos := pos) (aft := aft) (gu := gu) (t := t) (t' := t') hx hy
  rwa [decide_eq_true h] at this
theorem ej_retM3 {fn : Func} {R : Ending → World → Prop} {p q u : Tmp} {t1 t2 t3 : TypeId} {a b c : Addr} {v x1 x2 : Value} {Db : Nat} {O' : List Fact} (hD : C.D = [⟨.collected Db, #[]⟩]) (h : fn.results = #[.cell p t1, .cell q t2, .cell u t3]) [hup : UpdB O Db (.deferred (some [])) (.deferred none) O']
    (hx : val L (.tmp p) = some (.pointer (some a))) (hy : Yi C ⟨none, .load t1 (.tmp p), 0, "", #[], none⟩ L O' S v) (hx2 : val L (.tmp q) = some (.pointer (some b))) (hy2 : Yi C ⟨none, .load t2 (.tmp q), 0, "", #[], none⟩ L O' S x1)
    (hx3 : val L (.tmp u) = some (.pointer (some c))) (hy3 : Yi C ⟨none, .load t3 (.tmp u), 0, "", #[], none⟩ L O' S x2) (hR : ∀ w, Hp C.F C.w0 O' S w → R (.returned (.tuple #[v, x1, x2])) w) :
    EJ C (bodyPostM (FR none) 0 C.P fn R) .ret L O S := fun ac w hr hp => by
  show LeavesInM _ _ _ _ _ _ _ _ _
  rw [hr.defers, hD]
  refine ⟨by simp, .inl ⟨Db, _, rfl, run_takeDeferred (hp.at hup.rep.mem), ?_⟩⟩
  refine ⟨_, ?_, hR _ (hp.put hup.rep)⟩
  have h0 := getQ_of_look hr hx
  have h1 := getQ_of_look hr hx2
  have h2 := getQ_of_look hr hx3
  simp [results, h, h0, h1, h2, asAddr, yi_loadVar hx hy hr (hp.put hup.rep), yi_loadVar hx2 hy2 hr (hp.put hup.rep), yi_loadVar hx3 hy3 hr (hp.put hup.rep)]
end
/-- An element's place in a slice that is a part of one that reads as a list. -/
theorem y_ixRL {α : Type} {C : Cx} {L : Regs} {O S : List Fact} {dst : Option Tmp} {ty : TypeId} {pos : String} {aft : Array Edge} {gu : Option (Nat × Bool)} {x y : Operand} {m s e n c sz : Nat} {A : Option Addr} {i : Int} {k : IntKind} {enc : α → List Value} {xs : List α} (hm : m ≤ xs.length) (hr0 : Reads C O S sz enc A xs) (hu : C.P.underlying s = some (.slice e)) (hs : ∀ w, (sizeOf e).run C.P w = .ok n w) (hx : val L x = some (.slice A m c)) (hy : val L y = some (.int k i)) (hi : 0 ≤ i ∧ i < m) :
    Yi C ⟨dst, .indexAddr s x y, ty, pos, aft, gu⟩ L O S (.pointer (some (at_ A (i.toNat * n)))) :=
  ⟨(by intro c h; cases h), fun a w hr hp => by
    obtain ⟨ad, rfl, _⟩ := hr0 w hp (by rintro rfl; simp at hm; omega)
    exact (y_ix (O := O) (S := S) hu hs hx hy hi (by simp)).2 a w hr hp⟩
theorem cj_pure {C : Cx} {cd : Code} {Q : Exit → Act → World → Prop} {L : Regs} {O S : List Fact} (p : Prop) (h : ∀ w, Hp C.F C.w0 O S w → p) (k : p → CJ C cd Q L O S) : CJ C cd Q L O S := fun a w hr hp => k (h w hp) a w hr hp
end Go.Sx
namespace Go.Proofs.YtppfniekcgnmjaaGreatDoor.Ti
open Go Go.Sx Go.RowKit Um
/-- The least of m + f (s - m * c) over m < n, at most 2 ^ 30. -/
def fewB (f : Int → Int) (c s : Int) : Nat → Int
  | 0 => 1073741824
  | n + 1 => min (fewB f c s n) (n + f (s - n * c))
/-- how many of a kind may be taken -/
def mostN (c h s : Int) : Nat := (min h (s / c)).toNat
/-- How few pieces pay a sum. -/
def few : List Int → List Int → Int → Int
  | [], _, s => if s = 0 then 0 else 1073741824
  | c :: cs, hv, s => fewB (few cs hv.tail) c s (mostN c (hv.headD 0) s + 1)
def descN (f : Int → Int) (c s F : Int) : Nat → Nat
  | 0 => 0
  | n + 1 => if ((n + 1 : Nat) : Int) + f (s - ((n + 1 : Nat) : Int) * c) = F then n + 1 else descN f c s F n
/-- The payment with so few pieces. -/
def payL : List Int → List Int → Int → List Int
  | [], _, _ => []
  | c :: cs, hv, s =>
    let n := descN (few cs hv.tail) c s (few (c :: cs) hv s) (mostN c (hv.headD 0) s)
    (n : Int) :: payL cs hv.tail (s - n * c)
theorem fewB_le (f : Int → Int) (c s : Int) : ∀ n, fewB f c s n ≤ 1073741824
  | 0 => Int.le_refl _
  | n + 1 => by have := fewB_le f c s n; rw [fewB]; omega
theorem fewB_nn {f : Int → Int} (hf : ∀ s, 0 ≤ f s) (c s : Int) : ∀ n, 0 ≤ fewB f c s n
  | 0 => by rw [fewB]; omega
  | n + 1 => by have := fewB_nn hf c s n; have := hf (s - n * c); rw [fewB]; omega
theorem few_le : ∀ (cs hv : List Int) (s : Int), few cs hv s ≤ 1073741824
  | [], _, s => by rw [few]; split <;> omega
  | _ :: _, _, _ => fewB_le _ _ _ _
theorem few_nn : ∀ (cs hv : List Int) (s : Int), 0 ≤ few cs hv s
  | [], _, s => by rw [few]; split <;> omega
  | c :: cs, hv, s => fewB_nn (fun t => few_nn cs hv.tail t) c s _
theorem fewB_att {f : Int → Int} {c s : Int} : ∀ {n : Nat}, fewB f c s n < 1073741824 → ∃ m, m < n ∧ (m : Int) + f (s - m * c) = fewB f c s n
  | 0, h => absurd h (by rw [fewB]; omega)
  | n + 1, h => by
    by_cases h2 : fewB f c s n ≤ n + f (s - n * c)
    · have e : fewB f c s (n + 1) = fewB f c s n := by rw [fewB]; omega
      rw [e] at h ⊢
      obtain ⟨m, h3, h4⟩ := fewB_att h
      exact ⟨m, by omega, h4⟩
    · refine ⟨n, by omega, ?_⟩
      rw [fewB]; omega
theorem descN_le (f : Int → Int) (c s F : Int) : ∀ n, descN f c s F n ≤ n
  | 0 => Nat.le_refl _
  | n + 1 => by
    rw [descN]
    split
    · exact Nat.le_refl _
    · exact Nat.le_succ_of_le (descN_le f c s F n)
theorem descN_eq {f : Int → Int} {c s F : Int} : ∀ {n : Nat}, (∃ m : Nat, m ≤ n ∧ (m : Int) + f (s - m * c) = F) → (descN f c s F n : Int) + f (s - descN f c s F n * c) = F
  | 0, ⟨m, h1, h2⟩ => by
    have : m = 0 := by omega
    subst this
    exact h2
  | n + 1, ⟨m, h1, h2⟩ => by
    rw [descN]
    by_cases h : ((n + 1 : Nat) : Int) + f (s - ((n + 1 : Nat) : Int) * c) = F
    · rw [if_pos h]; exact h
    · rw [if_neg h]
      refine descN_eq ⟨m, ?_, h2⟩
      by_cases hm : m = n + 1
      · subst hm; exact absurd h2 h
      · omega
theorem descN_stop {f : Int → Int} {c s F : Int} {n : Nat} (h : (n : Int) + f (s - n * c) = F) : descN f c s F n = n := by
  cases n with
  | zero => rfl
  | succ n => rw [descN, if_pos h]
theorem descN_down {f : Int → Int} {c s F : Int} {n : Nat} (h : ¬ (n : Int) + f (s - n * c) = F) : descN f c s F n = descN f c s F (n - 1) := by
  cases n with
  | zero => rfl
  | succ n => rw [descN, if_neg h]; rfl
theorem most_bd {c h s : Int} (hc : 1 ≤ c) (hh : 0 ≤ h) (hs : 0 ≤ s) : (mostN c h s : Int) ≤ h ∧ (mostN c h s : Int) * c ≤ s := by
  have h1 : 0 ≤ s / c := Int.ediv_nonneg hs (by omega)
  have h2 : (mostN c h s : Int) = min h (s / c) := Int.toNat_of_nonneg (by omega)
  have h3 : (s / c) * c ≤ s := Int.ediv_mul_le s (by omega)
  have h4 : min h (s / c) * c ≤ (s / c) * c := Int.mul_le_mul_of_nonneg_right (by omega) (by omega)
  rw [h2]
  omega
/-- what the coins of a payment are worth -/
def worthC : List Int → List Int → Int
  | c :: cs, p :: ps => p * c + worthC cs ps
  | _, _ => 0
/-- A payment is out of the drawer, and pays the sum. -/
theorem payL_ok : ∀ (cs hv : List Int) (s : Int), (∀ c ∈ cs, 1 ≤ c) → (∀ h ∈ hv, 0 ≤ h) → hv.length = cs.length → 0 ≤ s → few cs hv s < 1073741824 →
    worthC cs (payL cs hv s) = s ∧ ∀ (i : Nat) (p h : Int), (payL cs hv s)[i]? = some p → hv[i]? = some h → 0 ≤ p ∧ p ≤ h
  | [], _, s, _, _, _, _, h => by
    rw [few] at h
    split at h
    · next h0 => exact ⟨h0.symm, fun i p _ hp => by rw [payL] at hp; simp at hp⟩
    · omega
  | c :: cs, [], s, _, _, hl, _, _ => by simp at hl
  | c :: cs, g :: hv, s, hc, hh, hl, hs, h => by
    have hc1 := hc c (List.mem_cons_self ..)
    have hg0 := hh g (List.mem_cons_self ..)
    obtain ⟨m, m1, m2⟩ := fewB_att (f := few cs hv) (c := c) (s := s) h
    have hd := descN_eq (f := few cs hv) (c := c) (s := s) (F := few (c :: cs) (g :: hv) s) (n := mostN c g s) ⟨m, Nat.le_of_lt_succ m1, m2⟩
    have hle := descN_le (few cs hv) c s (few (c :: cs) (g :: hv) s) (mostN c g s)
    obtain ⟨b1, b2⟩ := most_bd hc1 hg0 hs
    generalize hn : descN (few cs hv) c s (few (c :: cs) (g :: hv) s) (mostN c g s) = n at hd hle
    have e1 : payL (c :: cs) (g :: hv) s = (n : Int) :: payL cs hv (s - n * c) := by
      rw [payL]
      show ((descN (few cs hv) c s (few (c :: cs) (g :: hv) s) (mostN c g s) : Nat) : Int) :: payL cs hv (s - (descN (few cs hv) c s (few (c :: cs) (g :: hv) s) (mostN c g s) : Nat) * c) = _
      rw [hn]
    have hn1 : (n : Int) ≤ mostN c g s := Int.ofNat_le.2 hle
    have hnc : (n : Int) * c ≤ (mostN c g s : Int) * c := Int.mul_le_mul_of_nonneg_right hn1 (by omega)
    have hF : few cs hv (s - n * c) < 1073741824 := by
      have h5 : few (c :: cs) (g :: hv) s < 1073741824 := h
      omega
    obtain ⟨r1, r2⟩ := payL_ok cs hv (s - n * c) (fun x hx => hc x (List.mem_cons_of_mem _ hx)) (fun x hx => hh x (List.mem_cons_of_mem _ hx)) (by simpa using hl) (by omega) hF
    rw [e1]
    refine ⟨by rw [worthC, r1]; omega, fun i p q hp hq => ?_⟩
    cases i with
    | zero =>
      simp only [List.getElem?_cons_zero, Option.some.injEq] at hp hq
      subst hp hq
      exact ⟨Int.natCast_nonneg _, by omega⟩
    | succ i => exact r2 i p q (by simpa using hp) (by simpa using hq)
/-! ### Drawers -/
def haveB (cs l : List Int) : Bool := decide ((l.length : Int) = cs.length) && l.all (fun n => btw 0 n 50)
/-- the first kinds are such -/
def okC (cs : List Int) : Nat → Bool
  | 0 => true
  | k + 1 => okC cs k && (match cs[k]? with | none => true | some c => btw 1 c 50000 && !(decide (0 < k) && decide (cs.getD (k - 1) 0 ≤ c)))
theorem okC_no {cs : List Int} {k : Nat} (h : okC cs k = false) : ∀ n, okC cs (k + n) = false
  | 0 => h
  | n + 1 => by rw [← Nat.add_assoc, okC, okC_no h n]; rfl
theorem okC_at {cs : List Int} : ∀ {n : Nat}, okC cs n = true → ∀ i c, i < n → cs[i]? = some c → 1 ≤ c ∧ c ≤ 50000
  | 0, _, i, _, hi, _ => absurd hi (by omega)
  | n + 1, h, i, c, hi, hc => by
    rw [okC, Bool.and_eq_true] at h
    by_cases e : i = n
    · subst e
      have h2 := h.2
      rw [hc] at h2
      simp only [Bool.and_eq_true] at h2
      exact btw_t h2.1
    · exact okC_at h.1 i c (by omega) hc
def drwB (cs hv : List Int) : Bool := btw 1 cs.length 8 && haveB cs hv && okC cs cs.length
def CheE (cs hv : List Int) : Int := if drwB cs hv then 0 else 80
def PayE (cs hv : List Int) (s : Int) : Int := if drwB cs hv then (if btw 0 s 2000 then (if few cs hv s < 1073741824 then 0 else 4) else 7) else 80
def PayL (cs hv : List Int) (s : Int) : List Int := if PayE cs hv s = 0 then payL cs hv s else []
theorem okC_step {cs : List Int} {k : Nat} {x : Int} (hx : cs[k]? = some x) : okC cs (k + 1) = (okC cs k && !(!(btw 1 x 50000) || (decide (0 < (k : Int)) && decide (cs.getD ((k : Int) - 1).toNat 0 ≤ x)))) := by
  rw [okC, hx, show ((k : Int) - 1).toNat = k - 1 by omega]
  have e : decide (0 < (k : Int)) = decide (0 < k) := decide_eq_decide.2 (by omega)
  rw [e, Bool.not_or, Bool.not_not]
theorem drw_no1 {cs hv : List Int} (h : (!(btw 1 cs.length 8) || !(haveB cs hv)) = true) : drwB cs hv = false := by
  unfold drwB
  revert h
  cases btw 1 cs.length 8 <;> cases haveB cs hv <;> simp
theorem drw_no2 {cs hv : List Int} {k : Nat} (h : okC cs k = false) (hk : k ≤ cs.length) : drwB cs hv = false := by
  have := okC_no h (cs.length - k)
  rw [show k + (cs.length - k) = cs.length by omega] at this
  unfold drwB; rw [this, Bool.and_false]
theorem drw_yes {cs hv : List Int} (h : (!(btw 1 cs.length 8) || !(haveB cs hv)) = false) (h2 : okC cs cs.length = true) : drwB cs hv = true := by
  unfold drwB; rw [h2]
  revert h
  cases btw 1 cs.length 8 <;> cases haveB cs hv <;> simp
structure DrwOk (cs hv : List Int) : Prop where
  n : 1 ≤ cs.length ∧ cs.length ≤ 8
  l : hv.length = cs.length
  c : ∀ c ∈ cs, 1 ≤ c ∧ c ≤ 50000
  h : ∀ h ∈ hv, 0 ≤ h ∧ h ≤ 50
theorem drw_ok {cs hv : List Int} (h : drwB cs hv = true) : DrwOk cs hv := by
  unfold drwB haveB at h
  simp only [Bool.and_eq_true, decide_eq_true_eq] at h
  obtain ⟨⟨h1, h2, h3⟩, h4⟩ := h
  have h1 := btw_t h1
  refine ⟨by omega, by omega, fun c hc => ?_, fun x hx => btw_t (all_mem h3 hx)⟩
  obtain ⟨i, hi⟩ := List.mem_iff_getElem?.1 hc
  exact okC_at h4 i c (List.getElem?_eq_some_iff.1 hi).1 hi
/-! ### What is known of sums -/
abbrev ekS2 (k : Int × Int) : Value := .agg #[.int .i64 k.1, .int .i64 k.2]
abbrev evI (n : Int) : Value := .int .i64 n
def fewK (cs hv : List Int) (k : Int × Int) : Int := few (cs.drop k.1.toNat) (hv.drop k.1.toNat) k.2
def knP (cs hv : List Int) (l : List ((Int × Int) × Int)) : Prop := ∀ k v, getL l k = some v → v = fewK cs hv k
theorem knP_nil (cs hv : List Int) : knP cs hv [] := fun _ _ h => by cases h
theorem knP_put {cs hv : List Int} {l : List ((Int × Int) × Int)} (h : knP cs hv l) {k : Int × Int} {v : Int} (hv2 : v = fewK cs hv k) : knP cs hv (Go.Sx.putL l k v) := fun k' v' h' => by
  rw [getL_put] at h'
  split at h'
  · next e => subst e; injection h' with h'; rw [← h']; exact hv2
  · exact h k' v' h'
theorem few_at {cs hv : List Int} {k : Nat} {c h : Int} (s : Int) (hc : cs[k]? = some c) (hh : hv[k]? = some h) : few (cs.drop k) (hv.drop k) s = fewB (few (cs.drop (k + 1)) (hv.drop (k + 1))) c s (mostN c h s + 1) := by
  rw [dropG hc, dropG hh]; rfl
theorem pay_at {cs hv : List Int} {k : Nat} {c h : Int} (s : Int) (hc : cs[k]? = some c) (hh : hv[k]? = some h) :
    payL (cs.drop k) (hv.drop k) s = (descN (few (cs.drop (k + 1)) (hv.drop (k + 1))) c s (few (cs.drop k) (hv.drop k) s) (mostN c h s) : Int) :: payL (cs.drop (k + 1)) (hv.drop (k + 1)) (s - descN (few (cs.drop (k + 1)) (hv.drop (k + 1))) c s (few (cs.drop k) (hv.drop k) s) (mostN c h s) * c) := by
  rw [dropG hc, dropG hh]; rfl
theorem few_end {cs hv : List Int} {k : Nat} (h : cs.length ≤ k) (s : Int) : few (cs.drop k) (hv.drop k) s = if s = 0 then 0 else 1073741824 := by
  rw [List.drop_of_length_le h]; rfl
theorem most_eq {c h s : Int} (hh : 0 ≤ h) (hc : 1 ≤ c) (hs : 0 ≤ s) : (mostN c h s : Int) = min h (s / c) :=
  Int.toNat_of_nonneg (by have := Int.ediv_nonneg hs (show 0 ≤ c by omega); omega)
end Go.Proofs.YtppfniekcgnmjaaGreatDoor.Ti
namespace Go.Proofs.YtppfniekcgnmjaaGreatDoor.Ti
open Go Go.Sx Go.RowKit
theorem eq_drop {α : Type} [DecidableEq α] (a b : List α) (k : Nat) (x y : α) (hx : a[k]? = some x) (hy : b[k]? = some y) : decide (a.drop k = b.drop k) = (decide (x = y) && decide (a.drop (k + 1) = b.drop (k + 1))) := by
  obtain ⟨h1, h2⟩ := List.getElem?_eq_some_iff.1 hx
  obtain ⟨h3, h4⟩ := List.getElem?_eq_some_iff.1 hy
  rw [List.drop_eq_getElem_cons h1, h2, List.drop_eq_getElem_cons h3, h4]
  by_cases h : x = y <;> by_cases h5 : a.drop (k + 1) = b.drop (k + 1) <;> simp [h, h5]
theorem eq_len {α : Type} [DecidableEq α] {a b : List α} (h : ¬ (a.length : Int) = b.length) : decide (a = b) = false := decide_eq_false (fun e => h (by rw [e]))
theorem len_of {a b : List Int} (h : ((a.length : Int) == (b.length : Int)) = true) : a.length = b.length := by
  have h2 : (a.length : Int) = b.length := by simpa using h
  omega
theorem same_start (a b : List Int) : (((a.length : Int) == (b.length : Int)) && decide (a.drop 0 = b.drop 0)) = decide (a = b) := by
  rw [List.drop_zero, List.drop_zero]
  by_cases h : (a.length : Int) = b.length
  · rw [show ((a.length : Int) == (b.length : Int)) = true by simpa using h]; rfl
  · rw [show ((a.length : Int) == (b.length : Int)) = false by simpa using h, eq_len h]; rfl
theorem beq_dec {x y : Int} {c : Bool} : ((x == y) && c) = (decide (x = y) && c) := by
  by_cases h : x = y <;> simp [h]
def ringI (n m : Int) : Int := if m ≤ 0 then 0 else ((n.tmod m) + m).tmod m
theorem ringI_bd (n m : Int) (hm : 1 ≤ m) : 0 ≤ ringI n m ∧ ringI n m < m := by
  unfold ringI
  rw [if_neg (by omega)]
  have h1 : -m < n.tmod m ∧ n.tmod m < m := by
    rcases Int.lt_or_le n 0 with h | h
    · have h2 := Int.tmod_lt_of_pos (-n) (show (0 : Int) < m by omega)
      have h3 := Int.tmod_nonneg m (show 0 ≤ -n by omega)
      rw [Int.neg_tmod] at h2 h3
      omega
    · have h2 := Int.tmod_lt_of_pos n (show (0 : Int) < m by omega)
      have h3 := Int.tmod_nonneg m h
      omega
  exact ⟨Int.tmod_nonneg m (by omega), Int.tmod_lt_of_pos _ (by omega)⟩
theorem gd_of {α : Type} {l : List α} {i : Nat} {x : α} (d : α) (h : l[i]? = some x) : l.getD i d = x := by rw [List.getD_eq_getElem?_getD, h]; rfl
end Go.Proofs.YtppfniekcgnmjaaGreatDoor.Ti
namespace Go.Proofs.YtppfniekcgnmjaaGreatDoor.Ti
open Go.Sx Go.RowKit
set_option maxRecDepth 20000

end Go.Proofs.YtppfniekcgnmjaaGreatDoor.Ti
namespace Go.Proofs.YtppfniekcgnmjaaGreatDoor.Ti
open Go.Sx Go.RowKit Um
set_option maxRecDepth 20000
theorem k_within (n lo hi : Int) (w : World)  : Calls Tryz.prog 48 #[.int .i64 n, .int .i64 lo, .int .i64 hi] w (fun e w' => e = .returned (.bool (btw lo n hi)) ∧ Grow w w') := by
  refine enter_pure (args := [.int .i64 n, .int .i64 lo, .int .i64 hi]) [] Tryz.func48 rfl (by rw [Tryz.ntmps48]; simp) (by simp) ?_
  refine cj_seq ?_
  refine cj_regionG (gj_step (y_assign rfl) rfl rfl rfl (gj_nil ?_))
  refine ej_th (cj_seq ?_)
  refine cj_regionG (gj_step (y_move rfl) rfl rfl rfl (gj_step (y_move rfl) rfl rfl rfl (gj_step (y_geq rfl rfl) rfl rfl rfl (gj_step (y_move rfl) rfl rfl rfl (gj_g 3 10 13 rfl rfl rfl rfl (fun hg10 => gj_yes rfl rfl rfl (y_move rfl) rfl rfl (gj_yes rfl rfl rfl (y_move rfl) rfl rfl (gj_yes rfl rfl rfl (y_leq rfl rfl) rfl rfl (gj_nil rfl)))) (gj_step (y_and rfl rfl rfl) rfl rfl rfl (gj_step (y_assign rfl) rfl rfl rfl (gj_nil ?_))))))))
  refine ej_th (cj_ret ?_)
  exact ej_ret1 rfl Tryz.results48 rfl (fun w' hp => ⟨rfl, hp.below⟩)

end Go.Proofs.YtppfniekcgnmjaaGreatDoor.Ti
namespace Go.Proofs.YtppfniekcgnmjaaGreatDoor.Ti
open Go.Sx Go.RowKit
set_option maxRecDepth 20000
theorem fa92_0 : FieldIs Tryz.prog 92 0 0 1 false := ⟨⟨_, _, Tryz.underlying92, rfl, rfl, Tryz.sizeOf26, Tryz.isAgg26, by decide⟩⟩
theorem fa92_1 : FieldIs Tryz.prog 92 1 1 1 false := ⟨⟨_, _, Tryz.underlying92, rfl, rfl, Tryz.sizeOf26, Tryz.isAgg26, by decide⟩⟩
end Go.Proofs.YtppfniekcgnmjaaGreatDoor.Ti
namespace Go.Proofs.YtppfniekcgnmjaaGreatDoor.Ti
open Go.Sx Go.RowKit Um
set_option maxRecDepth 20000
theorem k_hv1 (n : Int) (w : World)  : Calls Tryz.prog 113 #[.int .i64 n] w (fun e w' => e = .returned (.bool (!(btw 0 n 50))) ∧ Grow w w') := by
  refine enter_pure (args := [.int .i64 n]) [] Tryz.func113 rfl (by rw [Tryz.ntmps113]; simp) (by simp) ?_
  refine cj_seq ?_
  refine cj_regionG (gj_step (y_assign rfl) rfl rfl rfl (gj_nil ?_))
  refine ej_th (cj_seq ?_)
  refine cj_regionG ?_
  refine gj_step (y_move rfl) rfl rfl rfl (?_)
  refine gj_step (y_call Tryz.call48 rfl (fun w hp => k_within _ _ _ w)) rfl rfl rfl ?_
  refine gj_step (y_not rfl) rfl rfl rfl (gj_step (y_assign rfl) rfl rfl rfl (?_))
  refine gj_nil ?_
  refine ej_th (cj_ret ?_)
  exact ej_ret1 rfl Tryz.results113 rfl (fun w' hp => ⟨rfl, hp.below⟩)

theorem k_have (cs hv : List Int) (Ac Ah : Option Addr) (cc ch : Nat) (l : List Int) (A : Option Addr) (c : Nat) (w : World) (hl : Rd w 1 enInt A l) : Calls Tryz.prog 83 #[.agg #[.slice Ac cs.length cc, .slice Ah hv.length ch], .slice A l.length c] w (fun e w' => e = .returned (.bool (haveB cs l)) ∧ Grow w w') := by
  refine enter_pure (args := [.agg #[.slice Ac cs.length cc, .slice Ah hv.length ch], .slice A l.length c]) [sl (fun b => b < w.heap.size) 1 enInt A l] Tryz.func83 rfl (by rw [Tryz.ntmps83]; simp) (fun g hg => by simp at hg; subst hg; exact ⟨hl, fun _ h => h⟩) ?_
  refine cj_seq (cj_region ?_)
  refine oj_box rfl rfl rfl (fun b2 => ?_)
  refine oj_step (y_assign rfl) rfl rfl rfl ?_
  refine oj_nil ?_
  refine ej_th (cj_seq ?_)
  refine cj_regionG ?_
  refine gj_step (y_move rfl) rfl rfl rfl (gj_step (y_lenA Tryz.underlying26 rfl) rfl rfl rfl (gj_step (y_fa0 fa92_0 rfl) rfl rfl rfl (gj_step (y_load1 Tryz.isAgg26 rfl rfl) rfl rfl rfl (gj_step (y_lenA Tryz.underlying26 rfl) rfl rfl rfl (gj_step (y_eql rfl rfl) rfl rfl rfl (gj_step (y_move rfl) rfl rfl rfl (?_)))))))
  refine gj_g 3 11 14 rfl rfl rfl rfl (fun hg11 => gj_yes rfl rfl rfl (y_move rfl) rfl rfl (gj_yes rfl rfl rfl (y_call Tryz.call110 rfl (fun w hp => Pu.k_ContI l A c 113 #[] #[] (fun n => !(btw 0 n 50)) w hp.rd Tryz.call113 (fun x hx w1 hg => k_hv1 x w1))) rfl rfl (gj_yes rfl rfl rfl (y_not rfl) rfl rfl (gj_nil rfl)))) ?_
  refine gj_step (y_and rfl rfl rfl) rfl rfl rfl (gj_step (y_assign rfl) rfl rfl rfl (?_))
  refine gj_nil ?_
  refine ej_th (cj_ret ?_)
  refine ej_ret1 rfl Tryz.results83 rfl (fun w' hp => ⟨?_, hp.below⟩)
  rw [haveB, any_not, Bool.not_not]; rfl

theorem k_Check (cs hv : List Int) (Ac Ah : Option Addr) (cc ch : Nat) (w : World) (hc : Rd w 1 enInt Ac cs) (hh : Rd w 1 enInt Ah hv) : Calls Tryz.prog 47 #[.agg #[.slice Ac cs.length cc, .slice Ah hv.length ch]] w (fun e w' => e = .returned (.int .i64 (CheE cs hv)) ∧ Grow w w') := by
  have hlc := hc.len
  refine enter_pure (args := [.agg #[.slice Ac cs.length cc, .slice Ah hv.length ch]]) [sl (fun b => b < w.heap.size) 1 enInt Ac cs, sl (fun b => b < w.heap.size) 1 enInt Ah hv] Tryz.func47 rfl (by rw [Tryz.ntmps47]; simp) (fun g hg => by simp at hg; rcases hg with rfl | rfl; exact ⟨hc, fun _ h => h⟩; exact ⟨hh, fun _ h => h⟩) ?_
  refine cj_seq (cj_region ?_)
  refine oj_box rfl rfl rfl (fun b1 => ?_)
  refine oj_step (y_assign rfl) rfl rfl rfl ?_
  refine oj_nil ?_
  refine ej_th (cj_seq (cj_seq ?_))
  refine cj_regionG ?_
  refine gj_step (y_fa0 fa92_0 rfl) rfl rfl rfl (gj_step (y_load1 Tryz.isAgg26 rfl rfl) rfl rfl rfl (gj_step (y_lenA Tryz.underlying26 rfl) rfl rfl rfl (?_)))
  refine gj_step (y_call Tryz.call48 rfl (fun w hp => k_within _ _ _ w)) rfl rfl rfl ?_
  refine gj_step (y_not rfl) rfl rfl rfl (gj_step (y_move rfl) rfl rfl rfl (?_))
  refine gj_g 5 10 15 rfl rfl rfl rfl (fun hg10 => gj_yes rfl rfl rfl (y_loadN Tryz.isAgg92 Tryz.sizeOf92 rfl) rfl rfl (gj_yes rfl rfl rfl (y_fa fa92_1 rfl) rfl rfl (gj_yes rfl rfl rfl (y_load1 Tryz.isAgg26 rfl rfl) rfl rfl (gj_yes rfl rfl rfl (y_call Tryz.call83 rfl (fun w hp => k_have cs hv Ac Ah cc ch hv Ah ch w hp.rd)) rfl rfl (gj_yes rfl rfl rfl (y_not rfl) rfl rfl (gj_nil rfl)))))) ?_
  refine gj_step (y_or rfl rfl rfl) rfl rfl rfl (?_)
  refine gj_nil ?_
  refine ej_th ?_
  refine cj_cond rfl (fun h16 => ?_) (fun h16 => ?_)
  · have h16b := h16
    try simp only [sxb] at h16
    refine cj_seq ?_
    refine cj_regionG (gj_step (y_assign rfl) rfl rfl rfl (gj_nil ?_))
    refine ej_th (cj_ret (ej_then_ret ?_))
    refine ej_ret1 rfl Tryz.results47 rfl (fun w' hp => ⟨?_, hp.below⟩)
    rw [CheE, drw_no1 h16b]; rfl
  · have h16b := h16
    try simp only [sxb] at h16
    refine cj_skip (ej_th (cj_seq (cj_seq ?_)))
    refine cj_regionG (gj_step (y_fa0 fa92_0 rfl) rfl rfl rfl (gj_step (y_load1 Tryz.isAgg26 rfl rfl) rfl rfl rfl (gj_step (y_lenA Tryz.underlying26 rfl) rfl rfl rfl (gj_step (y_move rfl) rfl rfl rfl (gj_nil ?_)))))
    refine ej_th (cj_block ?_)
    refine cj_lpic (X := Nat) [(1, _), (18, _), (19, _)] (fun k => k ≤ cs.length ∧ okC cs k = true) (fun k => [(20, .int .i64 (k : Nat))]) (fun k => cs.length - k) 0 (⟨Nat.zero_le _, rfl⟩) ⟨rfl, rfl, rfl, rfl, trivial⟩ ?_
    rintro k ⟨hk, hsk⟩
    dsimp only [List.cons_append, List.nil_append]
    refine cj_seq ?_
    refine cj_regionG (gj_step (y_lss rfl rfl) rfl rfl rfl (gj_nil ?_))
    refine ej_th (cj_seq ?_)
    refine cj_cond rfl (fun h21 => ?_) (fun h21 => ?_)
    · have h21b := h21
      try simp only [sxb] at h21
      obtain ⟨x, hx⟩ : ∃ x, cs[k]? = some x := ⟨_, List.getElem?_eq_getElem (by omega)⟩
      refine cj_skip (ej_th (cj_seq (cj_block (cj_seq ?_))))
      refine cj_regionG (gj_step (y_move rfl) rfl rfl rfl (gj_step (y_ixR (reads_sl) Tryz.underlying26 Tryz.sizeOf3 rfl rfl (⟨by omega, by omega⟩)) rfl rfl rfl (gj_step (y_ld0 (reads_sl) Tryz.isAgg3 rfl (hx) rfl) rfl rfl rfl (gj_step (y_assign rfl) rfl rfl rfl (gj_step (y_assign rfl) rfl rfl rfl (gj_nil ?_))))))
      refine ej_th (cj_seq ?_)
      refine cj_regionG ?_
      refine gj_step (y_move rfl) rfl rfl rfl (?_)
      refine gj_step (y_call Tryz.call48 rfl (fun w hp => k_within _ _ _ w)) rfl rfl rfl ?_
      refine gj_step (y_not rfl) rfl rfl rfl (gj_step (y_move rfl) rfl rfl rfl (?_))
      refine gj_g 12 28 40 rfl rfl rfl rfl (fun hg28 => gj_yes rfl rfl rfl (y_move rfl) rfl rfl (gj_yes rfl rfl rfl (y_gtr rfl rfl) rfl rfl (gj_yes rfl rfl rfl (y_move rfl) rfl rfl (gj_g 8 31 39 rfl rfl rfl rfl (fun hg31 => gj_yes rfl rfl rfl (y_fa0 fa92_0 rfl) rfl rfl (gj_yes rfl rfl rfl (y_load1 Tryz.isAgg26 rfl rfl) rfl rfl (gj_yes rfl rfl rfl (y_move rfl) rfl rfl (gj_yes rfl rfl rfl (y_sub rfl rfl (by omega)) rfl rfl (gj_yes rfl rfl rfl (y_ixR (reads_sl) Tryz.underlying26 Tryz.sizeOf3 rfl rfl (⟨by have := of_decide_eq_true hg31; omega, by have := of_decide_eq_true hg31; omega⟩)) rfl rfl (gj_yes rfl rfl rfl (y_ld0 (reads_sl) Tryz.isAgg3 rfl (geq 0 (by have := of_decide_eq_true hg31; omega)) rfl) rfl rfl (gj_yes rfl rfl rfl (y_move rfl) rfl rfl (gj_yes rfl rfl rfl (y_leq rfl rfl) rfl rfl (gj_nil rfl))))))))) (gj_yes rfl rfl rfl (y_and rfl rfl rfl) rfl rfl (gj_nil rfl)))))) ?_
      refine gj_step (y_or rfl rfl rfl) rfl rfl rfl (?_)
      refine gj_nil ?_
      refine ej_th ?_
      refine cj_cond rfl (fun h41 => ?_) (fun h41 => ?_)
      · have h41b := h41
        try simp only [sxb] at h41
        refine cj_seq ?_
        refine cj_regionG (gj_step (y_assign rfl) rfl rfl rfl (gj_nil ?_))
        refine ej_th (cj_ret (ej_blk_ret (ej_then_ret (ej_then_ret (ej_blk_ret (ej_then_ret ?_))))))
        refine ej_ret1 rfl Tryz.results47 rfl (fun w' hp => ⟨?_, hp.below⟩)
        rw [CheE, drw_no2 (k := k + 1) (by rw [okC_step hx, h41b, Bool.not_true, Bool.and_false]) (by omega)]; rfl
      · have h41b := h41
        try simp only [sxb] at h41
        refine cj_skip (ej_blk (ej_th ?_))
        refine cj_regionG (gj_step (y_add rfl rfl (by omega)) rfl rfl rfl (gj_step (y_move rfl) rfl rfl rfl (gj_nil ?_)))
        exact ej_nx (k + 1) (by omega) ⟨by omega, by rw [okC_step hx, hsk, h41b]; rfl⟩ ⟨rfl, rfl, rfl, rfl, trivial⟩
    · have h21b := h21
      try simp only [sxb] at h21
      refine cj_exit (ej_then_exit (ej_then_exit (ej_blk_hit (ej_th (cj_seq ?_)))))
      refine cj_regionG (gj_step (y_assign rfl) rfl rfl rfl (gj_nil ?_))
      refine ej_th (cj_ret ?_)
      refine ej_ret1 rfl Tryz.results47 rfl (fun w' hp => ⟨?_, hp.below⟩)
      rw [show k = cs.length by omega] at hsk
      rw [CheE, drw_yes h16b hsk]; rfl

end Go.Proofs.YtppfniekcgnmjaaGreatDoor.Ti
namespace Go.Proofs.YtppfniekcgnmjaaGreatDoor.Ti
open Go.Sx Go.RowKit
set_option maxRecDepth 20000
theorem eq190 (a0 b0 : Int) (a1 b1 : Int) (x y : Operand) (w : World) : (do eqGuard .eql 190 x y (.agg #[.int .i64 a0, .int .i64 a1]) (.agg #[.int .i64 b0, .int .i64 b1]); binOp .eql 190 (.agg #[.int .i64 a0, .int .i64 a1]) (.agg #[.int .i64 b0, .int .i64 b1]) : Sem Value).run Tryz.prog w = .ok (.bool ((a0 == b0) && (a1 == b1))) w := by
  simp [go_sem, Tryz.eqGuardType190, Tryz.stoodInHeld190, Tryz.underlying190, Tryz.underlying3]
  try ((repeat' split) <;> simp_all)
theorem fa190_0 : FieldIs Tryz.prog 190 0 0 1 false := ⟨⟨_, _, Tryz.underlying190, rfl, rfl, Tryz.sizeOf3, Tryz.isAgg3, by decide⟩⟩
theorem fa190_1 : FieldIs Tryz.prog 190 1 1 1 false := ⟨⟨_, _, Tryz.underlying190, rfl, rfl, Tryz.sizeOf3, Tryz.isAgg3, by decide⟩⟩
theorem st190 : StructIs Tryz.prog 190 [(0, 1), (1, 1)] [.int .i64 0, .int .i64 0] := ⟨⟨_, Tryz.underlying190, fun w => by simp [Tryz.sizeOf3], Tryz.zeroValue190⟩⟩
end Go.Proofs.YtppfniekcgnmjaaGreatDoor.Ti
namespace Go.Proofs.YtppfniekcgnmjaaGreatDoor.Ti
open Go.Sx Go.RowKit Um
set_option maxRecDepth 20000
abbrev kdS : TypeDesc := .struct #[{ name := "kind", type := 3, offset := 0, embedded := false, tag := "", pkgPath := "lombard/till", byteOffset := 0 }, { name := "sum", type := 3, offset := 1, embedded := false, tag := "", pkgPath := "lombard/till", byteOffset := 8 }]
theorem bits2 (n : Nat) (x y : Int) : Instr.sameBits (n + 1) (.agg #[.int .i64 x, .int .i64 y]) (.agg #[.int .i64 x, .int .i64 y]) = true := by simp [Instr.sameBits]
theorem check2 (c : Bool) (n : Nat) (x y : Int) (w : World) : (Instr.checkKey c (n + 2) 190 (.agg #[.int .i64 x, .int .i64 y])).run Tryz.prog w = .ok () w := by
  simp [Instr.checkKey, go_sem, Tryz.underlying190, Tryz.underlying3, Tryz.sizeOf3]
theorem equal2 (n : Nat) (x y u v : Int) (w : World) : (Op.equalIn (n + 2) 190 (.agg #[.int .i64 x, .int .i64 y]) (.agg #[.int .i64 u, .int .i64 v])).run Tryz.prog w = .ok ((x == u) && (y == v)) w := by
  simp [Op.equalIn, go_sem, Tryz.stoodInHeld190, Tryz.underlying190, Tryz.underlying3, Tryz.sizeOf3]
  try ((repeat' split) <;> simp_all)
theorem kaS : KeyA Tryz.prog 190 kdS ekS2 where
  und := Tryz.underlying190
  now := fun _ _ => rfl
  eq := fun a b w => by
    have h : decide (b = a) = ((a.1 == b.1) && (a.2 == b.2)) := by
      rw [Bool.eq_iff_iff]; simp only [decide_eq_true_eq, Prod.ext_iff, Bool.and_eq_true, beq_iff_eq]; constructor <;> (rintro ⟨h1, h2⟩; exact ⟨h1.symm, h2.symm⟩)
    rw [h]
    exact equal2 9998 _ _ _ _ w
  bits := fun a => bits2 9999 _ _
  check := fun c w a => check2 c 9998 _ _ w

set_option maxHeartbeats 1000000 in
theorem k_few1 (cs hv : List Int) (Ac Ah : Option Addr) (cc ch : Nat) (fpc fph : Nat → Prop) (bc bk bh bf bm : Nat) (k : Nat) (s : Int) (w : World) (hD : DrwOk cs hv) (hk : k ≤ cs.length) (hs : 0 ≤ s ∧ s ≤ 2000) (hO : ∀ f ∈ [mpE ekS2 evI bm (knP cs hv)], f.P w ∧ ∀ b, f.fp b → b < w.heap.size) (hap : [mpE ekS2 evI bm (knP cs hv)].Pairwise (fun f g => ∀ b, f.fp b → ¬ g.fp b)) (hS : ∀ g ∈ [ownB bc (cellsB 26 [.slice Ac cs.length cc]), ownB bk (cellsB 187 [.map (some bm)]), ownB bh (cellsB 26 [.slice Ah hv.length ch]), ownB bf (cellsB 188 [.func (.func 84) #[] #[.pointer (some ⟨bc, 0, none⟩), .pointer (some ⟨bk, 0, none⟩), .pointer (some ⟨bh, 0, none⟩), .pointer (some ⟨bf, 0, none⟩)]]), sl fpc 1 enInt Ac cs, sl fph 1 enInt Ah hv], g.P w ∧ ∀ i, g.fp i → i < w.heap.size ∧ ∀ f ∈ [mpE ekS2 evI bm (knP cs hv)], ¬ f.fp i) (ih : k < cs.length → ∀ (s : Int) (w : World) (_ : 0 ≤ s ∧ s ≤ 2000) (_ : ∀ f ∈ [mpE ekS2 evI bm (knP cs hv)], f.P w ∧ ∀ b, f.fp b → b < w.heap.size) (_ : [mpE ekS2 evI bm (knP cs hv)].Pairwise (fun f g => ∀ b, f.fp b → ¬ g.fp b)) (_ : ∀ g ∈ [ownB bc (cellsB 26 [.slice Ac cs.length cc]), ownB bk (cellsB 187 [.map (some bm)]), ownB bh (cellsB 26 [.slice Ah hv.length ch]), ownB bf (cellsB 188 [.func (.func 84) #[] #[.pointer (some ⟨bc, 0, none⟩), .pointer (some ⟨bk, 0, none⟩), .pointer (some ⟨bh, 0, none⟩), .pointer (some ⟨bf, 0, none⟩)]]), sl fpc 1 enInt Ac cs, sl fph 1 enInt Ah hv], g.P w ∧ ∀ i, g.fp i → i < w.heap.size ∧ ∀ f ∈ [mpE ekS2 evI bm (knP cs hv)], ¬ f.fp i), Calls Tryz.prog 84 #[.agg #[.int .i64 ((k : Nat) + 1), .int .i64 s], .pointer (some ⟨bc, 0, none⟩), .pointer (some ⟨bk, 0, none⟩), .pointer (some ⟨bh, 0, none⟩), .pointer (some ⟨bf, 0, none⟩)] w (fun e w' => ∃ _ : Unit, e = .returned (.int .i64 (few (cs.drop (k + 1)) (hv.drop (k + 1)) s)) ∧ Giv [mpE ekS2 evI bm (knP cs hv)] w w' [mpE ekS2 evI bm (knP cs hv)])) : Calls Tryz.prog 84 #[.agg #[.int .i64 (k : Nat), .int .i64 s], .pointer (some ⟨bc, 0, none⟩), .pointer (some ⟨bk, 0, none⟩), .pointer (some ⟨bh, 0, none⟩), .pointer (some ⟨bf, 0, none⟩)] w (fun e w' => ∃ _ : Unit, e = .returned (.int .i64 (few (cs.drop k) (hv.drop k) s)) ∧ Giv [mpE ekS2 evI bm (knP cs hv)] w w' [mpE ekS2 evI bm (knP cs hv)]) := by
  have hl1 := hD.n
  have hl2 := hD.l
  refine enterO (args := [.agg #[.int .i64 (k : Nat), .int .i64 s], .pointer (some ⟨bc, 0, none⟩), .pointer (some ⟨bk, 0, none⟩), .pointer (some ⟨bh, 0, none⟩), .pointer (some ⟨bf, 0, none⟩)]) [mpE ekS2 evI bm (knP cs hv)] [ownB bc (cellsB 26 [.slice Ac cs.length cc]), ownB bk (cellsB 187 [.map (some bm)]), ownB bh (cellsB 26 [.slice Ah hv.length ch]), ownB bf (cellsB 188 [.func (.func 84) #[] #[.pointer (some ⟨bc, 0, none⟩), .pointer (some ⟨bk, 0, none⟩), .pointer (some ⟨bh, 0, none⟩), .pointer (some ⟨bf, 0, none⟩)]]), sl fpc 1 enInt Ac cs, sl fph 1 enInt Ah hv] Tryz.func84 rfl (by rw [Tryz.ntmps84]; simp) hO hap hS ?_
  refine cj_seq (cj_region ?_)
  refine oj_box rfl rfl rfl (fun b5 => ?_)
  refine oj_step (y_assign rfl) rfl rfl rfl ?_
  refine oj_nil ?_
  refine ej_th (cj_seq (cj_seq ?_))
  refine cj_regionG (gj_step (y_loadN Tryz.isAgg190 Tryz.sizeOf190 rfl) rfl rfl rfl (gj_step (y_loadS1 Tryz.isAgg26 rfl rfl) rfl rfl rfl (gj_step (y_lenA Tryz.underlying26 rfl) rfl rfl rfl (gj_step (y_build (cs := [.int .i64 (cs.length : Nat), .int .i64 0]) st190 rfl (by kernel_rfl)) rfl rfl rfl (gj_step (y_bin rfl rfl (fun x y w => eq190 _ _ _ _ x y w)) rfl rfl rfl (gj_nil ?_))))))
  refine ej_th ?_
  refine cj_cond rfl (fun h15 => ?_) (fun h15 => ?_)
  · have h15b := h15
    try simp only [sxb] at h15
    refine cj_seq ?_
    refine cj_regionG (gj_step (y_assign rfl) rfl rfl rfl (gj_nil ?_))
    refine ej_th (cj_ret (ej_then_ret ?_))
    refine ej_ret1 rfl Tryz.results84 rfl (fun w' hp => ⟨(), ?_, hp.givT _⟩)
    simp only [Bool.and_eq_true, beq_iff_eq] at h15b
    rw [few_end (by omega), if_pos h15b.2]
  · have h15b := h15
    try simp only [sxb] at h15
    refine cj_skip (ej_th (cj_seq (cj_seq ?_)))
    refine cj_regionG (gj_step (y_fa0 fa190_0 rfl) rfl rfl rfl (gj_step (y_load1 Tryz.isAgg3 rfl rfl) rfl rfl rfl (gj_step (y_loadS1 Tryz.isAgg26 rfl rfl) rfl rfl rfl (gj_step (y_lenA Tryz.underlying26 rfl) rfl rfl rfl (gj_step (y_eql rfl rfl) rfl rfl rfl (gj_nil ?_))))))
    refine ej_th ?_
    refine cj_cond rfl (fun h20 => ?_) (fun h20 => ?_)
    · have h20b := h20
      try simp only [sxb] at h20
      refine cj_seq ?_
      refine cj_regionG (gj_step (y_assign rfl) rfl rfl rfl (gj_nil ?_))
      refine ej_th (cj_ret (ej_then_ret ?_))
      refine ej_ret1 rfl Tryz.results84 rfl (fun w' hp => ⟨(), ?_, hp.givT _⟩)
      have hs0 : ¬ s = 0 := fun e => by
        subst e
        simp at h15b
        omega
      rw [few_end (by omega), if_neg hs0]
    · have h20b := h20
      try simp only [sxb] at h20
      have hkl : k < cs.length := by omega
      obtain ⟨c, hcx⟩ : ∃ c, cs[k]? = some c := ⟨_, List.getElem?_eq_getElem (by omega)⟩
      obtain ⟨h, hhx⟩ : ∃ h, hv[k]? = some h := ⟨_, List.getElem?_eq_getElem (by omega)⟩
      have hcb := hD.c c (List.mem_of_getElem? hcx)
      have hhb := hD.h h (List.mem_of_getElem? hhx)
      have hmm := most_eq (c := c) (h := h) (s := s) hhb.1 hcb.1 hs.1
      have hmb := most_bd (c := c) (h := h) (s := s) hcb.1 hhb.1 hs.1
      have hq0 := Int.ediv_nonneg hs.1 (show 0 ≤ c by omega)
      refine cj_skip (ej_th (cj_seq (cj_seq ?_)))
      refine cj_mpO (ek := ekS2) (ev := evI) (b := bm) (knP cs hv) (fun l hl => ?_)
      refine cj_regionG (gj_step (y_loadS1 Tryz.isAgg187 rfl rfl) rfl rfl rfl (gj_step (y_loadN Tryz.isAgg190 Tryz.sizeOf190 rfl) rfl rfl rfl (gj_step (y_lookupA (ek := ekS2) (ev := evI) (kk := ((k : Nat), s)) 0 kaS Tryz.underlying187 Tryz.zeroValue3 rfl rfl) rfl rfl rfl (gj_step (y_move rfl) rfl rfl rfl (gj_step (y_extract rfl rfl) rfl rfl rfl (gj_step (y_extract rfl rfl) rfl rfl rfl (gj_step (y_assign rfl) rfl rfl rfl (gj_step (y_assign rfl) rfl rfl rfl (gj_nil ?_)))))))))
      refine ej_th (cj_seq ?_)
      refine cj_regionG (gj_step (y_move rfl) rfl rfl rfl (gj_nil ?_))
      refine ej_th ?_
      refine cj_cond rfl (fun h27 => ?_) (fun h27 => ?_)
      · have h27b := h27
        try simp only [sxb] at h27
        refine cj_mpC (ek := ekS2) (ev := evI) (b := bm) (knP cs hv) hl ?_
        refine cj_seq ?_
        refine cj_regionG (gj_step (y_move rfl) rfl rfl rfl (gj_step (y_assign rfl) rfl rfl rfl (gj_nil ?_)))
        refine ej_th (cj_ret (ej_then_ret ?_))
        refine ej_ret1 rfl Tryz.results84 rfl (fun w' hp => ⟨(), ?_, hp.givT _⟩)
        obtain ⟨v, hv2⟩ := Option.isSome_iff_exists.1 h27b
        rw [hv2, hl _ _ hv2]; rfl
      · have h27b := h27
        try simp only [sxb] at h27
        refine cj_mpC (ek := ekS2) (ev := evI) (b := bm) (knP cs hv) hl ?_
        refine cj_skip (ej_th (cj_seq ?_))
        refine cj_regionG (gj_step (y_assign rfl) rfl rfl rfl (gj_nil ?_))
        refine ej_th (cj_seq (cj_seq ?_))
        refine cj_draw (by kernel_rfl) (by kernel_rfl) (gj_step (y_loadS1 Tryz.isAgg26 rfl rfl) rfl rfl rfl (gj_step (y_fa0 fa190_0 rfl) rfl rfl rfl (gj_step (y_load1 Tryz.isAgg3 rfl rfl) rfl rfl rfl (gj_step (y_ixR (reads_sl) Tryz.underlying26 Tryz.sizeOf3 rfl rfl (⟨by omega, by omega⟩)) rfl rfl rfl (gj_step (y_ld0 (reads_sl) Tryz.isAgg3 rfl (hhx) rfl) rfl rfl rfl (gj_step (y_fa fa190_1 rfl) rfl rfl rfl (gj_step (y_load1 Tryz.isAgg3 rfl rfl) rfl rfl rfl (gj_step (y_loadS1 Tryz.isAgg26 rfl rfl) rfl rfl rfl (gj_step (y_fa0 fa190_0 rfl) rfl rfl rfl (gj_step (y_load1 Tryz.isAgg3 rfl rfl) rfl rfl rfl (gj_step (y_ixR (reads_sl) Tryz.underlying26 Tryz.sizeOf3 rfl rfl (⟨by omega, by omega⟩)) rfl rfl rfl (gj_step (y_ld0 (reads_sl) Tryz.isAgg3 rfl (hcx) rfl) rfl rfl rfl (gj_step (y_quo rfl rfl (⟨by omega, by omega, by omega⟩)) rfl rfl rfl (gj_step (y_min rfl rfl) rfl rfl rfl (gj_step (y_add rfl rfl (by omega)) rfl rfl rfl (gj_step (y_move rfl) rfl rfl rfl (gj_nil ?_)))))))))))))))))
        refine ej_th (cj_block ?_)
        refine cj_lpic (X := Nat) [(1, _), (2, _), (4, _), (5, _), (6, _), (43, _)] (fun n => n ≤ mostN c h s + 1) (fun n => [(44, .int .i64 (n : Nat)), (9, .int .i64 (fewB (few (cs.drop (k + 1)) (hv.drop (k + 1))) c s n))]) (fun n => mostN c h s + 1 - n) 0 (Nat.zero_le _) ⟨rfl, rfl, rfl, rfl, rfl, rfl, rfl, rfl, trivial⟩ ?_
        rintro n hn
        dsimp only [List.cons_append, List.nil_append]
        refine cj_seq ?_
        refine cj_regionG (gj_step (y_lss rfl rfl) rfl rfl rfl (gj_nil ?_))
        refine ej_th (cj_seq ?_)
        refine cj_cond rfl (fun h45 => ?_) (fun h45 => ?_)
        · have h45b := h45
          try simp only [sxb] at h45
          have hnm : n ≤ mostN c h s := by omega
          have hnc : (n : Int) * c ≤ (mostN c h s : Int) * c := Int.mul_le_mul_of_nonneg_right (by omega) (by omega)
          have hn0 : 0 ≤ (n : Int) * c := Int.mul_nonneg (by omega) (by omega)
          have hf0 := few_nn (cs.drop (k + 1)) (hv.drop (k + 1)) (s - (n : Nat) * c)
          have hf1 := few_le (cs.drop (k + 1)) (hv.drop (k + 1)) (s - (n : Nat) * c)
          refine cj_skip (ej_th (cj_seq (cj_block (cj_seq ?_))))
          refine cj_regionG (gj_step (y_move rfl) rfl rfl rfl (gj_step (y_assign rfl) rfl rfl rfl (gj_nil ?_)))
          refine ej_th ?_
          refine cj_plan 21 (by kernel_rfl) (by kernel_rfl) ?_
          refine pl_y 0 rfl (y_move rfl) rfl rfl rfl rfl (by kernel_rfl) ?_
          refine pl_y 1 rfl (y_move rfl) rfl rfl rfl rfl (by kernel_rfl) ?_
          refine pl_y 2 rfl (y_loadS1 Tryz.isAgg188 rfl rfl) rfl rfl rfl rfl (by kernel_rfl) ?_
          refine pl_y 3 rfl (y_fa0 fa190_0 rfl) rfl rfl rfl rfl (by kernel_rfl) ?_
          refine pl_y 4 rfl (y_load1 Tryz.isAgg3 rfl rfl) rfl rfl rfl rfl (by kernel_rfl) ?_
          refine pl_y 5 rfl (y_add rfl rfl (by omega)) rfl rfl rfl rfl (by kernel_rfl) ?_
          refine pl_y 6 rfl (y_fa fa190_1 rfl) rfl rfl rfl rfl (by kernel_rfl) ?_
          refine pl_y 7 rfl (y_load1 Tryz.isAgg3 rfl rfl) rfl rfl rfl rfl (by kernel_rfl) ?_
          refine pl_y 8 rfl (y_move rfl) rfl rfl rfl rfl (by kernel_rfl) ?_
          refine pl_y 9 rfl (y_loadS1 Tryz.isAgg26 rfl rfl) rfl rfl rfl rfl (by kernel_rfl) ?_
          refine pl_y 10 rfl (y_fa0 fa190_0 rfl) rfl rfl rfl rfl (by kernel_rfl) ?_
          refine pl_y 11 rfl (y_load1 Tryz.isAgg3 rfl rfl) rfl rfl rfl rfl (by kernel_rfl) ?_
          refine pl_y 12 rfl (y_ixR (reads_sl) Tryz.underlying26 Tryz.sizeOf3 rfl rfl (⟨by omega, by omega⟩)) rfl rfl rfl rfl (by kernel_rfl) ?_
          refine pl_y 13 rfl (y_ld0 (reads_sl) Tryz.isAgg3 rfl (hcx) rfl) rfl rfl rfl rfl (by kernel_rfl) ?_
          refine pl_y 14 rfl (y_mul rfl rfl (by omega)) rfl rfl rfl rfl (by kernel_rfl) ?_
          refine pl_y 15 rfl (y_sub rfl rfl (by omega)) rfl rfl rfl rfl (by kernel_rfl) ?_
          refine pl_y 16 rfl (y_build (cs := [.int .i64 ((k : Nat) + 1), .int .i64 (s - (n : Nat) * c)]) st190 rfl (by kernel_rfl)) rfl rfl rfl rfl (by kernel_rfl) ?_
          refine pl_w1 17 (by kernel_rfl) rfl rfl (pl_fire rfl rfl rfl (by kernel_rfl) ?_)
          refine oj_callL (X := Unit) (fun _ => .int .i64 (few (cs.drop (k + 1)) (hv.drop (k + 1)) (s - (n : Nat) * c))) [mpE ekS2 evI bm (knP cs hv)] (fun _ => [mpE ekS2 evI bm (knP cs hv)]) Tryz.call84 rfl rfl (fun w1 hp => by
            obtain ⟨q1, q2, q3⟩ := hp.ownL (Os := [mpE ekS2 evI bm (knP cs hv)]) inferInstance
            exact ih hkl (s - (n : Nat) * c) w1 ⟨by omega, by omega⟩ q1 q2 q3) rfl (fun _ => ?_)
          dsimp only [List.cons_append, List.nil_append]
          refine oj_nil ?_
          refine ej_pl (lt_w (by kernel_rfl) (lt_y (y_sub rfl rfl (by omega)) rfl (lt_y (y_mul rfl rfl (by omega)) rfl (lt_y (y_ld0 (reads_sl) Tryz.isAgg3 rfl (hcx) rfl) rfl (lt_y (y_ixR (reads_sl) Tryz.underlying26 Tryz.sizeOf3 rfl rfl (⟨by omega, by omega⟩)) rfl (lt_y (y_load1 Tryz.isAgg3 rfl rfl) rfl (lt_y (y_fa0 fa190_0 rfl) rfl (lt_y (y_loadS1 Tryz.isAgg26 rfl rfl) rfl (lt_y (y_move rfl) rfl (lt_y (y_load1 Tryz.isAgg3 rfl rfl) rfl (lt_y (y_fa fa190_1 rfl) rfl (lt_y (y_add rfl rfl (by omega)) rfl (lt_y (y_load1 Tryz.isAgg3 rfl rfl) rfl (lt_y (y_fa0 fa190_0 rfl) rfl (lt_w (by kernel_rfl) (lt_y (y_move rfl) rfl (lt_y (y_move rfl) rfl (lt_nil)))))))))))))))))) ?_
          refine pl_y 18 rfl (y_add rfl rfl (by omega)) rfl rfl rfl rfl (by kernel_rfl) ?_
          refine pl_y 19 rfl (y_min rfl rfl) rfl rfl rfl rfl (by kernel_rfl) ?_
          refine pl_y 20 rfl (y_assign rfl) rfl rfl rfl rfl (by kernel_rfl) ?_
          refine pl_end (by kernel_rfl) ?_
          refine ej_blk (ej_th ?_)
          refine cj_regionG (gj_step (y_add rfl rfl (by omega)) rfl rfl rfl (gj_step (y_move rfl) rfl rfl rfl (gj_nil ?_)))
          exact ej_nx (n + 1) (by omega) (by omega) ⟨rfl, rfl, rfl, rfl, rfl, rfl, rfl, rfl, trivial⟩
        · have h45b := h45
          try simp only [sxb] at h45
          have hn : n = mostN c h s + 1 := by omega
          subst hn
          have hfin : fewB (few (cs.drop (k + 1)) (hv.drop (k + 1))) c s (mostN c h s + 1) = fewK cs hv ((k : Nat), s) := (few_at s hcx hhx).symm
          refine cj_exit (ej_then_exit (ej_then_exit (ej_blk_hit (ej_th (cj_seq ?_)))))
          refine cj_mpO (ek := ekS2) (ev := evI) (b := bm) (knP cs hv) (fun l2 hl2 => ?_)
          refine cj_region ?_
          refine oj_step (y_loadS1 Tryz.isAgg187 rfl rfl) rfl rfl rfl ?_
          refine oj_step (y_loadN Tryz.isAgg190 Tryz.sizeOf190 rfl) rfl rfl rfl ?_
          refine oj_step (y_move rfl) rfl rfl rfl ?_
          refine oj_mapUpdateA (ek := ekS2) (ev := evI) (kk := ((k : Nat), s)) (v := fewB (few (cs.drop (k + 1)) (hv.drop (k + 1))) c s (mostN c h s + 1)) kaS Tryz.underlying187 rfl rfl rfl ?_
          refine oj_nil ?_
          refine ej_th (cj_seq ?_)
          refine cj_mpC (ek := ekS2) (ev := evI) (b := bm) (knP cs hv) (knP_put hl2 hfin) ?_
          refine cj_regionG (gj_step (y_move rfl) rfl rfl rfl (gj_step (y_assign rfl) rfl rfl rfl (gj_nil ?_)))
          refine ej_th (cj_ret ?_)
          refine ej_ret1 rfl Tryz.results84 rfl (fun w' hp => ⟨(), ?_, hp.givT _⟩)
          rw [hfin]; rfl

end Go.Proofs.YtppfniekcgnmjaaGreatDoor.Ti
namespace Go.Proofs.YtppfniekcgnmjaaGreatDoor.Ti
open Go.Sx Go.RowKit
set_option maxRecDepth 20000
theorem el26 : ElemIs Tryz.prog 26 3 1 8 := ⟨⟨_, (.int .i64 0), Tryz.underlying26, Tryz.type3, by kernel_rfl, by kernel_rfl, by kernel_rfl, by kernel_rfl, by decide⟩⟩
end Go.Proofs.YtppfniekcgnmjaaGreatDoor.Ti
