import Derived.Test.YtjgdajeoeagggaaGreatYGoQ
import Derived.Test.YtjgdajeoeagggaaGreatYEcD
set_option linter.unusedSimpArgs false
set_option linter.unusedVariables false
namespace Go.Proofs.YtjgdajeoeagggaaGreat
open Go.RowKit
/-! ### reduction modulo a prime: reduced points lie on the reduced curve, doubles reduce to doubles -/
theorem pr_mul {q a b : Int} (hq : Pr q) (h : q ∣ a * b) : q ∣ a ∨ q ∣ b := by
  have h2 := hq.1
  by_cases g : q ∣ a
  · exact .inl g
  · right
    have hg : Int.gcd q a = 1 := by
      have d1 : ((Int.gcd q a : Nat) : Int) ∣ q := Int.gcd_dvd_left _ _
      have d2 : ((Int.gcd q a : Nat) : Int) ∣ a := Int.gcd_dvd_right _ _
      have p0 : Int.gcd q a ≠ 0 := fun h0 => by have := Int.gcd_eq_zero_iff.1 h0; omega
      generalize Int.gcd q a = d at *
      by_cases h1 : d = 1
      · exact h1
      · exfalso
        by_cases h3 : (d : Int) = q
        · rw [h3] at d2; exact g d2
        · have hle := Int.le_of_dvd (by omega) d1
          exact pr_div hq (d := d) (by omega) (by omega) (Int.emod_eq_zero_of_dvd d1)
    exact EC.dvd_of_gcd1 h hg
theorem pr_pow {q a : Int} (hq : Pr q) : ∀ n : Nat, q ∣ a ^ n → q ∣ a
  | 0, h => by
    have h1 : q ∣ 1 := by simpa using h
    have := Int.le_of_dvd (by omega) h1
    have := hq.1; omega
  | n + 1, h => by
    rw [Int.pow_succ] at h
    rcases pr_mul hq h with h | h
    · exact pr_pow hq n h
    · exact h
/-- A power with exponent q - 2 is an inverse. -/
theorem inv_mod {q a : Int} (hq : Pr q) (h3 : 3 ≤ q) (h9 : q ≤ 997) (ha : ¬ q ∣ a) : q ∣ a * pw a (q - 2) q - 1 := by
  have hodd : q % 2 = 1 := by
    have := fun h => hq.2 2 (by omega) h
    by_cases g : 4 ≤ q
    · have := hq.2 2 (by omega) (by omega); omega
    · omega
  have e1 : q ∣ pw a (q - 2) q - a ^ (q - 2).toNat := by
    unfold pw
    exact Int.dvd_of_emod_eq_zero (by rw [Int.sub_emod, Int.emod_emod, Int.sub_self]; rfl)
  have e2 : a * a ^ (q - 2).toNat = a ^ ((q - 1) / 2).toNat * a ^ ((q - 1) / 2).toNat := by
    rw [← Int.pow_add, Int.mul_comm, ← Int.pow_succ]
    congr 1; omega
  have e3 : q ∣ a ^ ((q - 1) / 2).toNat * a ^ ((q - 1) / 2).toNat - 1 := by
    have hc := pw_cases (a := a) hq h3 h9
    have e4 : q ∣ a ^ ((q - 1) / 2).toNat - pw a ((q - 1) / 2) q := by
      unfold pw
      exact Int.dvd_of_emod_eq_zero (by rw [Int.sub_emod, Int.emod_emod, Int.sub_self]; rfl)
    have e5 : ¬ q ∣ a ^ ((q - 1) / 2).toNat := fun h => ha (pr_pow hq _ h)
    clear e1 e2
    generalize a ^ ((q - 1) / 2).toNat = t at *
    obtain ⟨k, hk⟩ := e4
    rcases hc with h | h | h
    · exfalso
      rw [h] at hk
      exact e5 ⟨k, by omega⟩
    · rw [h] at hk
      have h5 : t = 1 + q * k := by omega
      exact ⟨k * (t + 1), by rw [h5]; grind⟩
    · rw [h] at hk
      have h5 : t = q * (k + 1) - 1 := by grind
      exact ⟨(k + 1) * (q * (k + 1) - 2), by rw [h5]; grind⟩
  obtain ⟨k1, h1⟩ := e1
  obtain ⟨k2, h2⟩ := e3
  rw [← e2] at h2
  exact ⟨a * k1 + k2, by grind⟩
/-! congruences -/
theorem emq (a q : Int) : q ∣ a % q - a := Int.dvd_of_emod_eq_zero (by rw [Int.sub_emod, Int.emod_emod, Int.sub_self]; rfl)
theorem c1 {q a u : Int} (h : q ∣ u) (e : a = u) : q ∣ a := e ▸ h
theorem l1 {q u : Int} (c : Int) (h : q ∣ u) : q ∣ c * u := Int.dvd_mul_of_dvd_right h
theorem l2 {q u v : Int} (c d : Int) (h : q ∣ u) (k : q ∣ v) : q ∣ c * u + d * v := Int.dvd_add (l1 c h) (l1 d k)
theorem l3 {q u v x : Int} (c d e : Int) (h : q ∣ u) (k : q ∣ v) (m : q ∣ x) : q ∣ c * u + d * v + e * x := Int.dvd_add (l2 c d h k) (l1 e m)
theorem l4 {q u v x y : Int} (c d e f : Int) (h : q ∣ u) (k : q ∣ v) (m : q ∣ x) (n : q ∣ y) : q ∣ c * u + d * v + e * x + f * y := Int.dvd_add (l3 c d e h k m) (l1 f n)
theorem eq_of_cong {q a b : Int} (h : q ∣ a - b) (h1 : 0 ≤ a) (h2 : a < q) (h3 : 0 ≤ b) (h4 : b < q) : a = b := by
  obtain ⟨k, hk⟩ := h
  rcases Int.lt_trichotomy k 0 with g | g | g
  · have := Int.mul_le_mul_of_nonneg_left (show k ≤ -1 by omega) (show 0 ≤ q by omega); omega
  · subst g; omega
  · have := Int.mul_le_mul_of_nonneg_left (show 1 ≤ k by omega) (show 0 ≤ q by omega); omega
theorem emod_cong {q a b : Int} (h : q ∣ a - b) : a % q = b % q := by
  rw [Int.emod_eq_emod_iff_emod_sub_eq_zero]; exact Int.emod_eq_zero_of_dvd h
theorem pr_small {q c : Int} (h3 : 5 ≤ q) (h1 : 1 ≤ c) (h4 : c ≤ 4) : ¬ q ∣ c := fun h => by have := Int.le_of_dvd (by omega) h; omega
end Go.Proofs.YtjgdajeoeagggaaGreat
