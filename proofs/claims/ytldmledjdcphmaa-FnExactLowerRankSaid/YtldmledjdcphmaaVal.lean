import Derived.Test.YtldmledjdcphmaaFermat
set_option linter.unusedSimpArgs false
set_option linter.unusedVariables false
namespace Go.Proofs.Ytldmledjdcphmaa
open Go.RowKit
/-! ### valuations and powers -/
/-- How often p divides a. -/
def IsVal (a p : Int) (k : Nat) : Prop := a % p ^ k = 0 ∧ ¬ a % p ^ (k + 1) = 0
noncomputable def vl (a p : Int) : Nat := Classical.epsilon (IsVal a p)
theorem pow_dvd_le {a p : Int} {j k : Nat} (h : a % p ^ k = 0) (hjk : j ≤ k) : a % p ^ j = 0 := by
  have e : p ^ k = p ^ j * p ^ (k - j) := by rw [← Int.pow_add]; congr 1; omega
  rw [e] at h
  exact Int.emod_eq_zero_of_dvd (Int.dvd_trans (Int.dvd_mul_right _ _) (Int.dvd_of_emod_eq_zero h))
theorem vl_eq {a p : Int} {k : Nat} (h : IsVal a p k) : vl a p = k := by
  have h' : IsVal a p (vl a p) := Classical.epsilon_spec (p := IsVal a p) ⟨k, h⟩
  rcases Nat.lt_trichotomy (vl a p) k with g | g | g
  · exact absurd (pow_dvd_le h.1 g) h'.2
  · exact g
  · exact absurd (pow_dvd_le h'.1 g) h.2
/-- The loop's state: a = p^k b. -/
def VInv (a p b : Int) (k : Nat) : Prop := a = p ^ k * b ∧ b ≠ 0 ∧ b.natAbs ≤ a.natAbs ∧ k + b.natAbs ≤ a.natAbs + 1
theorem v_start {a p : Int} (h : a ≠ 0) : VInv a p a 0 := ⟨by simp, h, Nat.le_refl _, by omega⟩
theorem v_step {a p b : Int} {k : Nat} (hp : 2 ≤ p) (h : VInv a p b k) (h0 : b.tmod p = 0) : VInv a p (b.tdiv p) (k + 1) ∧ (b.tdiv p).natAbs < b.natAbs := by
  obtain ⟨h1, h2, h3, h4⟩ := h
  have e := Int.mul_tdiv_add_tmod b p
  rw [h0, Int.add_zero] at e
  have h5 : b.tdiv p ≠ 0 := by intro g; rw [g] at e; simp at e; exact h2 e.symm
  have h6 : (p * b.tdiv p).natAbs = b.natAbs := by rw [e]
  rw [Int.natAbs_mul] at h6
  have h7 : 2 * (b.tdiv p).natAbs ≤ p.natAbs * (b.tdiv p).natAbs := Nat.mul_le_mul_right _ (by omega)
  have h8 : 1 ≤ (b.tdiv p).natAbs := by omega
  exact ⟨⟨by rw [h1, Int.pow_succ, Int.mul_assoc, e], h5, by omega, by omega⟩, by omega⟩
theorem v_end {a p b : Int} {k : Nat} (hp : 2 ≤ p) (h : VInv a p b k) (h0 : ¬ b.tmod p = 0) : vl a p = k := by
  refine vl_eq ⟨?_, fun g => h0 ?_⟩
  · rw [h.1]; exact Int.mul_emod_right _ _
  · rw [h.1, Int.pow_succ] at g
    have hpk : p ^ k ≠ 0 := Int.pow_ne_zero (by omega)
    have d := Int.dvd_of_emod_eq_zero g
    have d2 : p ∣ b := by
      obtain ⟨c, hc⟩ := d
      exact ⟨c, by
        have : p ^ k * b = p ^ k * (p * c) := by rw [hc, Int.mul_assoc]
        exact Int.eq_of_mul_eq_mul_left hpk this⟩
    exact Int.tmod_eq_zero_of_dvd d2
theorem v_tdiv {a p b : Int} {k : Nat} (hp : 2 ≤ p) (h : VInv a p b k) : a.tdiv (p ^ k) = b := by
  rw [h.1]; exact Int.mul_tdiv_cancel_left _ (Int.pow_ne_zero (by omega))
theorem tdiv_bd' (a b : Int) : (a.tdiv b).natAbs ≤ a.natAbs := by rw [Int.natAbs_tdiv]; exact Nat.div_le_self _ _
theorem pow_mono' {p : Int} (hp : 1 ≤ p) {a b : Nat} (h : a ≤ b) : p ^ a ≤ p ^ b := by
  induction h with
  | refl => exact Int.le_refl _
  | @step m _ ih =>
    refine Int.le_trans ih ?_
    rw [Int.pow_succ]
    have h0 : 0 ≤ p ^ m := Int.pow_nonneg (by omega)
    have := Int.mul_le_mul_of_nonneg_left hp h0
    omega
theorem p_step {a : Int} {j k : Nat} (ha : 1 ≤ a) (h : a ^ k ≤ 4000000000000000000) (hj : j < k) : 0 ≤ a ^ j * a ∧ a ^ j * a ≤ 4000000000000000000 := by
  rw [← Int.pow_succ]
  exact ⟨Int.pow_nonneg (by omega), Int.le_trans (pow_mono' ha hj) h⟩

theorem valuation_any (a p : Int) (ha : a ≠ 0) (h1 : -9223372036854775807 ≤ a) (h2 : a ≤ 9223372036854775807) (hp : 2 ≤ p) (w : World) : Calls Try.prog 91 #[.int .i64 a, .int .i64 p] w (Same (.int .i64 (vl a p)) w) := by
  have hp0 : (p == 0) = false := by simp; omega
  have hpn : ¬ p = 0 := by omega
  have hvs := Lib.hid (v_start (p := p) ha)
  clear ha
  go_enter Try.func91, Try.ntmps91
  go_wp2
  go_loop [0, 5] (fun v0 v5 => ∃ (b : Int) (k : Nat), v0 = .int .i64 b ∧ v5 = .int .i64 k ∧ VInv a p b k) (fun v0 _ => (intOf v0).natAbs)
  case atStart => exact ⟨a, 0, rfl, rfl, hvs.out⟩
  case round =>
    obtain ⟨b, k, rfl, rfl, hi⟩ := hrel
    have i3 := hi.2.2.1
    have i4 := hi.2.2.2
    have b1 := tdiv_bd' b p
    have c1 : -9223372036854775807 ≤ b.tdiv p := by omega
    have c2 : b.tdiv p ≤ 9223372036854775807 := by omega
    have c3 : (k : Int) ≤ 9223372036854775807 := by have := hi.2.1; omega
    by_cases h0 : b.tmod p = 0
    · have h0' : (b.tmod p == 0) = true := by simpa using h0
      have hs := v_step hp hi h0
      have c4 : (k : Int) + 1 ≤ 9223372036854775807 := by have q1 := hs.1.2.2.2; have q2 := hs.1.2.1; omega
      have hs1 := Lib.hid hs.1
      have hs2 := hs.2
      clear hs h0 hi
      go_wp2
      go_round
      case rel => exact ⟨_, k + 1, rfl, by go_num, hs1.out⟩
      case measure => exact hs2
    · have h0' : (b.tmod p == 0) = false := by simpa using h0
      have he := Lib.hid (v_end hp hi h0)
      clear h0 hi
      go_wp2
      go_ret
      exact same (vint (by rw [he.out]))

theorem mdValuation_any (a p : Int) (ha : a ≠ 0) (h1 : -9223372036854775807 ≤ a) (h2 : a ≤ 9223372036854775807) (hp : 2 ≤ p) (w : World) : Calls Try.prog 86 #[.int .i64 a, .int .i64 p] w (Same (.int .i64 (vl a p)) w) := by
  have hp0 : (p == 0) = false := by simp; omega
  have hpn : ¬ p = 0 := by omega
  have hvs := Lib.hid (v_start (p := p) ha)
  clear ha
  go_enter Try.func86, Try.ntmps86
  go_wp2
  go_loop [0, 5] (fun v0 v5 => ∃ (b : Int) (k : Nat), v0 = .int .i64 b ∧ v5 = .int .i64 k ∧ VInv a p b k) (fun v0 _ => (intOf v0).natAbs)
  case atStart => exact ⟨a, 0, rfl, rfl, hvs.out⟩
  case round =>
    obtain ⟨b, k, rfl, rfl, hi⟩ := hrel
    have i3 := hi.2.2.1
    have i4 := hi.2.2.2
    have b1 := tdiv_bd' b p
    have c1 : -9223372036854775807 ≤ b.tdiv p := by omega
    have c2 : b.tdiv p ≤ 9223372036854775807 := by omega
    have c3 : (k : Int) ≤ 9223372036854775807 := by have := hi.2.1; omega
    by_cases h0 : b.tmod p = 0
    · have h0' : (b.tmod p == 0) = true := by simpa using h0
      have hs := v_step hp hi h0
      have c4 : (k : Int) + 1 ≤ 9223372036854775807 := by have q1 := hs.1.2.2.2; have q2 := hs.1.2.1; omega
      have hs1 := Lib.hid hs.1
      have hs2 := hs.2
      clear hs h0 hi
      go_wp2
      go_round
      case rel => exact ⟨_, k + 1, rfl, by go_num, hs1.out⟩
      case measure => exact hs2
    · have h0' : (b.tmod p == 0) = false := by simpa using h0
      have he := Lib.hid (v_end hp hi h0)
      clear h0 hi
      go_wp2
      go_ret
      exact same (vint (by rw [he.out]))

end Go.Proofs.Ytldmledjdcphmaa
