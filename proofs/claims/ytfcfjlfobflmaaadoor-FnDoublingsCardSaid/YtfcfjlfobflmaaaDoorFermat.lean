import Derived.Test.YtfcfjlfobflmaaaDoorNumC
set_option linter.unusedSimpArgs false
set_option linter.unusedVariables false
namespace Go.Proofs.YtfcfjlfobflmaaaDoor
open Go.RowKit

/-! ### square symbols -/
def symb (a p : Int) : Int := if pw a ((p - 1) / 2) p = 0 then 0 else if pw a ((p - 1) / 2) p = 1 then 1 else -1
def chk (p : Nat) : Bool := (List.range p).all fun a => let r := a ^ ((p - 1) / 2) % p; r == 0 || r == 1 || r == p - 1
def prn (n : Nat) : Bool := (List.range n).all fun d => d < 2 || n % d != 0
theorem chk_all : ((List.range 998).all fun p => p < 3 || !prn p || chk p) = true := by decide +kernel
/-- A number that is a prime has no divisor between 1 and itself. -/
theorem pr_div {n d : Int} (h : Pr n) (h2 : 2 ≤ d) (hd : d < n) : ¬ n % d = 0 := by
  intro h0
  have e : n = d * (n / d) := by have := Int.mul_ediv_add_emod n d; omega
  generalize n / d = q at e
  by_cases hs : d * d ≤ n
  · exact h.2 d h2 hs h0
  · have hq : q < d := by
      rcases Int.lt_or_le q d with g | g
      · exact g
      · have := Int.mul_le_mul_of_nonneg_left g (show 0 ≤ d by omega); omega
    have hq1 : 2 ≤ q := by
      rcases Int.lt_or_le q 2 with g | g
      · have h1 : q ≤ 1 := by omega
        have := Int.mul_le_mul_of_nonneg_left h1 (show 0 ≤ d by omega)
        omega
      · exact g
    refine h.2 q hq1 ?_ ?_
    · have := Int.mul_le_mul_of_nonneg_right (Int.le_of_lt hq) (show 0 ≤ q by omega); omega
    · rw [e]; exact Int.mul_emod_left _ _
theorem prn_of {n : Int} (h : Pr n) : prn n.toNat = true := by
  have h2 := h.1
  rw [prn, List.all_eq_true]
  intro d hd
  rw [List.mem_range] at hd
  by_cases g : d < 2
  · simp [g]
  · have := pr_div h (d := d) (by omega) (by omega)
    simp [g]
    intro h0
    apply this
    have : (n.toNat : Int) % (d : Int) = 0 := by rw [← Int.natCast_emod, h0]; rfl
    rwa [Int.toNat_of_nonneg (by omega)] at this
theorem pw_cases {a p : Int} (hp : Pr p) (h3 : 3 ≤ p) (h9 : p ≤ 997) : pw a ((p - 1) / 2) p = 0 ∨ pw a ((p - 1) / 2) p = 1 ∨ pw a ((p - 1) / 2) p = p - 1 := by
  have hc := chk_all
  rw [List.all_eq_true] at hc
  have hc := hc p.toNat (by rw [List.mem_range]; omega)
  rw [prn_of hp] at hc
  have h4 : ¬ p.toNat < 3 := by omega
  simp [h4] at hc
  rw [chk, List.all_eq_true] at hc
  have h5 := hc (a % p).toNat (by rw [List.mem_range]; have := Int.emod_lt_of_pos a (show 0 < p by omega); have := Int.emod_nonneg a (show p ≠ 0 by omega); omega)
  have e : ((((a % p).toNat ^ ((p.toNat - 1) / 2) % p.toNat : Nat)) : Int) = pw a ((p - 1) / 2) p := by
    have h6 := Int.emod_nonneg a (show p ≠ 0 by omega)
    rw [pw, Int.natCast_emod, Int.natCast_pow, Int.toNat_of_nonneg h6, Int.toNat_of_nonneg (by omega), emod_pow]
    congr 2; omega
  simp only [Bool.or_eq_true, beq_iff_eq] at h5
  rw [← e]
  rcases h5 with (h5 | h5) | h5 <;> rw [h5]
  · exact .inl rfl
  · exact .inr (.inl rfl)
  · right; right; omega

end Go.Proofs.YtfcfjlfobflmaaaDoor
