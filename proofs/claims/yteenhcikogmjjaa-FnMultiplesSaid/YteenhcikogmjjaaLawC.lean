import Derived.Test.YteenhcikogmjjaaFermat
set_option linter.unusedSimpArgs false
set_option linter.unusedVariables false
namespace Go.Proofs.Yteenhcikogmjjaa
open Go.RowKit

def cVal (a b x e : Int) : Int := wrap64 (x*x*x + a*x*e*e*e*e + b*e*e*e*e*e*e)

theorem curveValue_any (a b x e : Int) (w : World) : Calls Try.prog 38 #[.agg #[.int .i64 a, .int .i64 b], .int .i64 x, .int .i64 e] w (Gives (.int .i64 (cVal a b x e)) w) := by
  go_enter Try.func38, Try.ntmps38
  go_wp2
  go_ret
  exact gives (vint (by simp only [cVal, wadd_l, wadd_r, wmul_l, wmul_r])) (by repeat' (first | (with_reducible exact Below.refl _ _) | (with_reducible assumption) | (with_reducible refine Below.alloc ?_ ?_ _) | (with_reducible refine Below.setCell ?_ ?_ _) | (with_reducible refine Below.drew ?_) | (with_reducible refine below_drewN ?_ _) | (apply bthen2; (with_reducible assumption)) | go_size))

def sFit (a b x e : Int) : Bool := isC a b && inB x (-10000) 10000 && inB e 1 20

noncomputable def oddP (p : Int) : Bool := inB p 3 997 && prB p
theorem oddP_f {p : Int} (h : oddP p = true) : 3 ≤ p ∧ p ≤ 997 ∧ Pr p := by
  unfold oddP at h
  rw [Bool.and_eq_true] at h
  obtain ⟨h1, h2⟩ := h
  have h3 := inB_iff.1 h1
  exact ⟨h3.1, h3.2, by unfold prB at h2; simpa using h2⟩

def psB (a b x e p : Int) : Bool := decide (0 ≤ symb (cVal a b x e) p)
theorem symb_mod (a p : Int) (h : p ≠ 0) : symb (a % p) p = symb a p := by
  unfold symb pw; rw [emod_pow]

end Go.Proofs.Yteenhcikogmjjaa
