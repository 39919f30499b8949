/- Loops and cuts that keep what is known of the temporaries that they do not write. Conditions: none; a library of lemmas. -/
import Derived.Test.YtafmgkiddhappaaDoorSxN
namespace Go.Sx
open Go.RowKit

theorem subR_all {L : Regs} : ∀ {L' : Regs}, subR L L' → ∀ k v, look L' k = some v → look L k = some v
  | [], _, k, v, h => by cases h
  | p :: r, hs, k, v, h => by
    obtain ⟨k0, v0⟩ := p
    rw [look_cons] at h
    by_cases e : k0 = k
    · subst e
      rw [if_pos rfl] at h
      rw [hs.1]; exact h
    · rw [if_neg e] at h
      exact subR_all hs.2 k v h

section
variable {C : Cx} {Q : Exit → Act → World → Prop} {L : Regs} {O S : List Fact}
theorem cj_lpi {c : Code} {X : Type} (Lc : Regs) (inv : X → Prop) (M : X → Regs) (Ox Sx : X → List Fact) (μ : X → Nat) (x0 : X) (h0 : inv x0) (hL : subR L (M x0 ++ Lc)) [hO : SubO (Ox x0) O] [hS : SubO (Sx x0) S]
    (round : ∀ x, inv x → CJ C c (Exit.then (fun a w => ∃ x', μ x' < μ x ∧ LoopI C inv (fun x => M x ++ Lc) Ox Sx x' a w) Q) (M x ++ Lc) (Ox x) (Sx x)) : CJ C (.loop c) Q L O S :=
  cj_loop inv (fun x => M x ++ Lc) Ox Sx μ x0 h0 hL hO.sub (fun _ hf => hS.sub.subset hf) round
theorem cj_lpic {c : Code} {X : Type} (Lc : Regs) (inv : X → Prop) (M : X → Regs) (μ : X → Nat) (x0 : X) (h0 : inv x0) (hL : subR L (M x0 ++ Lc))
    (round : ∀ x, inv x → CJ C c (Exit.then (fun a w => ∃ x', μ x' < μ x ∧ LoopI C inv (fun x => M x ++ Lc) (fun _ => O) (fun _ => S) x' a w) Q) (M x ++ Lc) O S) : CJ C (.loop c) Q L O S :=
  cj_loop inv (fun x => M x ++ Lc) (fun _ => O) (fun _ => S) μ x0 h0 hL (.refl _) (fun _ hf => hf) round
theorem cj_cuti {x y : Code} {X : Type} (Lc : Regs) (_ : subR L Lc) (inv : X → Prop) (M : X → Regs) (Ox Sx : X → List Fact)
    (h1 : CJ C x (Exit.then (fun a w => ∃ x, LoopI C inv (fun x => M x ++ Lc) Ox Sx x a w) Q) L O S) (h2 : ∀ x, inv x → CJ C y Q (M x ++ Lc) (Ox x) (Sx x)) : CJ C (.seq x y) Q L O S :=
  cj_cut inv (fun x => M x ++ Lc) Ox Sx h1 h2
theorem cj_cutic {x y : Code} {X : Type} (Lc : Regs) (_ : subR L Lc) (inv : X → Prop) (M : X → Regs)
    (h1 : CJ C x (Exit.then (fun a w => ∃ x, LoopI C inv (fun x => M x ++ Lc) (fun _ => O) (fun _ => S) x a w) Q) L O S) (h2 : ∀ x, inv x → CJ C y Q (M x ++ Lc) O S) : CJ C (.seq x y) Q L O S :=
  cj_cut inv (fun x => M x ++ Lc) (fun _ => O) (fun _ => S) h1 h2
end
end Go.Sx
