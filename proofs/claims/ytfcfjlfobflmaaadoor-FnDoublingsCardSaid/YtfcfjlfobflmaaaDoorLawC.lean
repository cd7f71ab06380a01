import Derived.Test.YtfcfjlfobflmaaaDoorFermat
set_option linter.unusedSimpArgs false
set_option linter.unusedVariables false
namespace Go.Proofs.YtfcfjlfobflmaaaDoor
open Go.RowKit

def cVal (a b x e : Int) : Int := wrap64 (x*x*x + a*x*e*e*e*e + b*e*e*e*e*e*e)

def sFit (a b x e : Int) : Bool := isC a b && inB x (-10000) 10000 && inB e 1 20

noncomputable def oddP (p : Int) : Bool := inB p 3 997 && prB p
theorem oddP_f {p : Int} (h : oddP p = true) : 3 ≤ p ∧ p ≤ 997 ∧ Pr p := by
  unfold oddP at h
  rw [Bool.and_eq_true] at h
  obtain ⟨h1, h2⟩ := h
  have h3 := inB_iff.1 h1
  exact ⟨h3.1, h3.2, by unfold prB at h2; simpa using h2⟩

def psB (a b x e p : Int) : Bool := decide (0 ≤ symb (cVal a b x e) p)
theorem symb_mod (a p : Int) (h : p ≠ 0) : symb (a % p) p = symb a p := by
  unfold symb pw; rw [emod_pow]

end Go.Proofs.YtfcfjlfobflmaaaDoor
