import Derived.Test.YtfcfjlfobflmaaaDoorNumA
set_option linter.unusedSimpArgs false
set_option linter.unusedVariables false
namespace Go.Proofs.YtfcfjlfobflmaaaDoor
open Go.RowKit
/-! ### divisors -/
theorem gcd_tmod (x y : Int) : Int.gcd y (x.tmod y) = Int.gcd x y := by
  show Nat.gcd y.natAbs (x.tmod y).natAbs = Nat.gcd x.natAbs y.natAbs
  rw [Int.natAbs_tmod, Nat.gcd_comm y.natAbs, ← Nat.gcd_rec, Nat.gcd_comm]
theorem tmod_lt (x y : Int) (h : y ≠ 0) : (x.tmod y).natAbs < y.natAbs := by
  rw [Int.natAbs_tmod]; exact Nat.mod_lt _ (by omega)

def pw (a n p : Int) : Int := a ^ n.toNat % p
def PwInv (a n p o b k : Int) : Prop := 0 ≤ o ∧ o < p ∧ 0 ≤ b ∧ b < p ∧ 0 ≤ k ∧ k ≤ n ∧ (o * b ^ k.toNat) % p = pw a n p
theorem emod_pow (a p : Int) (n : Nat) : (a % p) ^ n % p = a ^ n % p := by
  induction n with
  | zero => simp
  | succ n ih => rw [Int.pow_succ, Int.pow_succ, Int.mul_emod, ih, Int.emod_emod, ← Int.mul_emod]
theorem pw_start {a n p : Int} (hp : 2 ≤ p) (hn : 0 ≤ n) : PwInv a n p 1 (a % p) n :=
  ⟨by omega, by omega, Int.emod_nonneg _ (by omega), Int.emod_lt_of_pos _ (by omega), hn, Int.le_refl _, by rw [Int.one_mul]; exact emod_pow a p _⟩
theorem pow_half (b : Int) (k : Nat) : b ^ k = (b * b) ^ (k / 2) * (if k % 2 = 1 then b else 1) := by
  have e : k = 2 * (k / 2) + k % 2 := by omega
  have h2 : ∀ j : Nat, b ^ (2 * j) = (b * b) ^ j := fun j => by rw [Int.pow_mul]; congr 1; rw [Int.pow_succ, Int.pow_succ]; simp
  by_cases h : k % 2 = 1
  · rw [if_pos h]; conv => lhs; rw [e, h, Int.pow_succ, h2]
  · rw [if_neg h]; have h0 : k % 2 = 0 := by omega
    conv => lhs; rw [e, h0, Nat.add_zero, h2]
    simp
theorem pw_odd {a n p o b k : Int} (h : PwInv a n p o b k) (hp : 2 ≤ p) (h1 : k % 2 = 1) : PwInv a n p (o * b % p) (b * b % p) (k / 2) := by
  obtain ⟨a1, a2, a3, a4, a5, a6, a7⟩ := h
  refine ⟨Int.emod_nonneg _ (by omega), Int.emod_lt_of_pos _ (by omega), Int.emod_nonneg _ (by omega), Int.emod_lt_of_pos _ (by omega), by omega, by omega, ?_⟩
  rw [← a7, pow_half b k.toNat, if_pos (by omega), Int.mul_emod, emod_pow, Int.emod_emod, ← Int.mul_emod]
  have e : (k / 2).toNat = k.toNat / 2 := by omega
  rw [e]; congr 1; rw [Int.mul_assoc, Int.mul_comm b]
theorem pw_even {a n p o b k : Int} (h : PwInv a n p o b k) (hp : 2 ≤ p) (h1 : k % 2 = 0) : PwInv a n p o (b * b % p) (k / 2) := by
  obtain ⟨a1, a2, a3, a4, a5, a6, a7⟩ := h
  refine ⟨a1, a2, Int.emod_nonneg _ (by omega), Int.emod_lt_of_pos _ (by omega), by omega, by omega, ?_⟩
  rw [← a7, pow_half b k.toNat, if_neg (by omega), Int.mul_emod, emod_pow, ← Int.mul_emod, Int.mul_one]
  have e : (k / 2).toNat = k.toNat / 2 := by omega
  rw [e]
theorem pw_end {a n p o b : Int} (h : PwInv a n p o b 0) : o = pw a n p := by
  obtain ⟨a1, a2, a3, a4, a5, a6, a7⟩ := h
  rw [← a7]; simp; exact (Int.emod_eq_of_lt a1 a2).symm
theorem sq_bd {x y p : Int} (hp : p ≤ 1000000000) (h1 : 0 ≤ x) (h2 : x < p) (h3 : 0 ≤ y) (h4 : y < p) : 0 ≤ x * y ∧ x * y ≤ 1000000000000000000 := by
  refine ⟨Int.mul_nonneg h1 h3, ?_⟩
  have := Int.mul_le_mul (show x ≤ 1000000000 by omega) (show y ≤ 1000000000 by omega) h3 (by omega)
  omega

end Go.Proofs.YtfcfjlfobflmaaaDoor
