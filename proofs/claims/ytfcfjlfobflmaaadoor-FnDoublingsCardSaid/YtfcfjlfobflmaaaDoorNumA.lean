import Derived.Test.YtfcfjlfobflmaaaDoorBase
set_option linter.unusedSimpArgs false
set_option linter.unusedVariables false
namespace Go.Proofs.YtfcfjlfobflmaaaDoor
open Go.RowKit
/-! ### small numbers -/
def inB (n lo hi : Int) : Bool := decide (lo ≤ n) && decide (n ≤ hi)
theorem inB_iff {n lo hi : Int} : inB n lo hi = true ↔ lo ≤ n ∧ n ≤ hi := by simp [inB]
theorem inB_t {n lo hi : Int} (h1 : lo ≤ n) (h2 : n ≤ hi) : inB n lo hi = true := inB_iff.2 ⟨h1, h2⟩
theorem inB_f1 {n lo hi : Int} (h1 : n < lo) : inB n lo hi = false := by simp [inB]; omega
theorem inB_f2 {n lo hi : Int} (h1 : hi < n) : inB n lo hi = false := by simp [inB]; omega

theorem inside_any (n lo hi : Int) (w : World) : Calls Tryd.prog 25 #[.int .i64 n, .int .i64 lo, .int .i64 hi] w (Same (.bool (inB n lo hi)) w) := by
  go_enter Tryd.func25, Tryd.ntmps25
  go_wp2
  all_goals (go_ret; exact same (vbool (by simp only [inB, *]; simp; try omega)))

theorem l1In_any (n lo hi : Int) (w : World) : Calls Tryd.prog 28 #[.int .i64 n, .int .i64 lo, .int .i64 hi] w (Same (.bool (inB n lo hi)) w) := by
  go_enter Tryd.func28, Tryd.ntmps28
  go_wp2
  all_goals (go_ret; exact same (vbool (by simp only [inB, *]; simp; try omega)))

theorem l1Most_any (a b : Int) (w : World) : Calls Tryd.prog 47 #[.int .i64 a, .int .i64 b] w (Same (.int .i64 (max a b)) w) := by
  go_enter Tryd.func47, Tryd.ntmps47
  go_wp2
  all_goals (go_ret; exact same (vint (by omega)))

theorem l1Abs_any (a : Int) (w : World) : Calls Tryd.prog 48 #[.int .i64 a] w (Same (.int .i64 (max a (wrap64 (-a)))) w) := by
  go_enter Tryd.func48, Tryd.ntmps48
  go_wp2_with (go_at_call 47; refine (l1Most_any _ _ _).mono ?_; rintro e w' ⟨rfl, rfl⟩)
  go_ret
  exact same rfl

/-! ### curves -/
def dsc (a b : Int) : Int := wrap64 (4*a*a*a+27*b*b)
def isC (a b : Int) : Bool := inB a (-1000) 1000 && inB b (-10000) 10000 && dsc a b != 0

theorem core_any (a b : Int) (w : World) : Calls Tryd.prog 44 #[.agg #[.int .i64 a, .int .i64 b]] w (Gives (.int .i64 (dsc a b)) w) := by
  go_enter Tryd.func44, Tryd.ntmps44
  go_wp2
  go_ret
  exact gives (vint (by simp only [dsc, wadd_l, wadd_r, wmul_l, wmul_r])) (by go_grown)

theorem isCurve_any (a b : Int) (w : World) : Calls Tryd.prog 24 #[.agg #[.int .i64 a, .int .i64 b]] w (Gives (.bool (isC a b)) w) := by
  go_enter Tryd.func24, Tryd.ntmps24
  go_wp2_with (first | (go_at_call 25; refine (inside_any _ _ _ _).mono ?_; rintro e w' ⟨rfl, rfl⟩) | (go_at_call 44; refine (core_any _ _ _).mono ?_; rintro e w' ⟨rfl, hb⟩))
  all_goals (go_ret; exact gives (vbool (by simp [isC, *])) (by first | (go_grown; done) | exact bthen (by go_grown) hb))

theorem ecDisc_any (a b : Int) (w : World) : Calls Tryd.prog 45 #[.agg #[.int .i64 a, .int .i64 b]] w (Gives (.int .i64 (dsc a b)) w) := by
  go_enter Tryd.func45, Tryd.ntmps45
  go_wp2
  go_ret
  exact gives (vint (by simp only [dsc, wadd_l, wadd_r, wmul_l, wmul_r])) (by go_grown)

theorem ecGood_any (a b : Int) (w : World) : Calls Tryd.prog 27 #[.agg #[.int .i64 a, .int .i64 b]] w (Gives (.bool (isC a b)) w) := by
  go_enter Tryd.func27, Tryd.ntmps27
  go_wp2_with (first | (go_at_call 28; refine (l1In_any _ _ _ _).mono ?_; rintro e w' ⟨rfl, rfl⟩) | (go_at_call 45; refine (ecDisc_any _ _ _).mono ?_; rintro e w' ⟨rfl, hb⟩))
  all_goals (go_ret; exact gives (vbool (by simp [isC, *])) (by first | (go_grown; done) | exact bthen (by go_grown) hb))

/-! ### quartics -/
def isQ (d a c : Int) : Bool := inB d (-100000) 100000 && inB a (-100000) 100000 && inB c (-100000) 100000 && d != 0 && c != 0

def qReal (d a c : Int) : Bool := decide (0 < d) || decide (0 < c) || decide (0 < a) && decide (wrap64 (4*d*c) ≤ wrap64 (a*a))

def qVal (d a c m e : Int) : Int := wrap64 (d*m*m*m*m + a*m*m*e*e + c*e*e*e*e)

/-! ### primes -/
def Pr (n : Int) : Prop := 2 ≤ n ∧ ∀ d : Int, 2 ≤ d → d * d ≤ n → ¬ n % d = 0
open Classical in
noncomputable def prB (n : Int) : Bool := decide (Pr n)
theorem prB_t {n : Int} (h : Pr n) : prB n = true := by simp [prB, h]
theorem prB_f {n : Int} (h : ¬ Pr n) : prB n = false := by simp [prB, h]
def NoDiv (n k : Int) : Prop := 2 ≤ k ∧ k * k ≤ 3 * n + 4 ∧ ∀ d : Int, 2 ≤ d → d < k → ¬ n % d = 0
theorem nodiv_start (n : Int) (h : 0 ≤ n) : NoDiv n 2 := ⟨by omega, by omega, fun d h1 h2 => by omega⟩
theorem nodiv_step {n k : Int} (h : NoDiv n k) (h1 : k * k ≤ n) (h2 : ¬ n % k = 0) : NoDiv n (k + 1) := by
  obtain ⟨a, b, c⟩ := h
  have e : 2 * k ≤ k * k := Int.mul_le_mul_of_nonneg_right a (by omega)
  refine ⟨by omega, ?_, fun d x y => ?_⟩
  · have : (k + 1) * (k + 1) = k * k + 2 * k + 1 := by grind
    omega
  · by_cases hd : d = k
    · subst hd; exact h2
    · exact c d x (by omega)
theorem nodiv_end {n k : Int} (h : NoDiv n k) (h1 : n < k * k) (h2 : 2 ≤ n) : Pr n := by
  refine ⟨h2, fun d x y => h.2.2 d x ?_⟩
  rcases Int.lt_or_le d k with g | g
  · exact g
  · have : k * k ≤ d * d := Int.mul_le_mul g g (by have := h.1; omega) (by omega)
    omega
theorem pr_no {n k : Int} (h : NoDiv n k) (h1 : k * k ≤ n) (h2 : n % k = 0) : ¬ Pr n := fun p => p.2 k h.1 h1 h2

/-! ### the depth of a prime -/
def IsDep (p : Int) (k : Nat) : Prop := p ^ k ≤ 1000000000 ∧ 1000000000 < p ^ (k + 1)
noncomputable def dep (p : Int) : Nat := Classical.epsilon (IsDep p)
theorem pow_mono {p : Int} (hp : 1 ≤ p) {a b : Nat} (h : a ≤ b) : p ^ a ≤ p ^ b := by
  induction h with
  | refl => exact Int.le_refl _
  | @step m _ ih =>
    refine Int.le_trans ih ?_
    rw [Int.pow_succ]
    have h0 : 0 ≤ p ^ m := Int.pow_nonneg (by omega)
    have := Int.mul_le_mul_of_nonneg_left hp h0
    omega
theorem dep_eq {p : Int} (hp : 1 ≤ p) {k : Nat} (h : IsDep p k) : dep p = k := by
  have h' : IsDep p (dep p) := Classical.epsilon_spec (p := IsDep p) ⟨k, h⟩
  rcases Nat.lt_trichotomy (dep p) k with g | g | g
  · have := pow_mono hp (show dep p + 1 ≤ k from g); have a := h'.2; have b := h.1; omega
  · exact g
  · have := pow_mono hp (show k + 1 ≤ dep p from g); have a := h.2; have b := h'.1; omega
theorem pow_ge_two {p : Int} (hp : 2 ≤ p) (k : Nat) : (k : Int) + 1 ≤ p ^ k := by
  induction k with
  | zero => simp
  | succ n ih => rw [Int.pow_succ]; have h0 : 0 ≤ p ^ n := Int.pow_nonneg (by omega); have := Int.mul_le_mul_of_nonneg_left hp h0; omega
theorem dep_step {p a : Int} (hp : 2 ≤ p) (hq : p ≤ 997) (h0 : 0 ≤ a) (h : a ≤ 1000000000) : 2 * a ≤ a * p ∧ a * p ≤ 997000000000 := by
  constructor
  · have := Int.mul_le_mul_of_nonneg_left hp h0; omega
  · have h1 := Int.mul_le_mul_of_nonneg_left hq h0; omega

end Go.Proofs.YtfcfjlfobflmaaaDoor
