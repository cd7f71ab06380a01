import Derived.Test.YtelkmldmebdcgaaLog2
import Derived.Test.YtelkmldmebdcgaaLawW
import Derived.Test.YtelkmldmebdcgaaLawW2
import Derived.Test.YtelkmldmebdcgaaLawW3
set_option linter.unusedSimpArgs false
set_option linter.unusedVariables false
namespace Go.Proofs.Ytelkmldmebdcgaa
open Go.RowKit
/-! ### what bounds of logarithms answer to one another -/

theorem bl_pos {n : Nat} (h : n ≠ 0) : 1 ≤ bl n := by rw [bl_half h]; omega
theorem bl_ge {n : Nat} (h : n ≠ 0) : 2 ^ (bl n - 1) ≤ n := by
  rcases Nat.lt_or_ge n (2 ^ (bl n - 1)) with g | g
  · have h1 := bl_le g
    have h2 := bl_pos h
    omega
  · exact g
theorem bl_sq {n : Nat} (h : n ≠ 0) : 2 * bl n ≤ bl (n * n) + 1 ∧ bl (n * n) ≤ 2 * bl n := by
  have h1 := bl_pos h
  refine ⟨?_, ?_⟩
  · rcases Nat.lt_or_ge (bl (n * n) + 1) (2 * bl n) with g | g
    · have h2 := bl_lt (n * n)
      have h3 := Nat.mul_le_mul (bl_ge h) (bl_ge h)
      rw [← Nat.pow_add] at h3
      have h4 := Nat.pow_le_pow_right (n := 2) (by omega) (show bl (n * n) ≤ bl n - 1 + (bl n - 1) by omega)
      omega
    · exact g
  · refine bl_le ?_
    have h2 := Nat.mul_lt_mul_of_lt_of_lt (bl_lt n) (bl_lt n)
    rw [← Nat.pow_add] at h2
    rwa [Nat.two_mul]
theorem pwz_succ : ∀ (k : Nat) (z y : Int), pwz (k + 1) z = some y → ∃ x, pwz k z = some x ∧ y = x * x
  | 0, z, y, h => by
    by_cases g : (dg (z * z).natAbs).length ≤ 400
    · rw [pwz_some g] at h
      exact ⟨z, rfl, by cases h; rfl⟩
    · rw [pwz_none g] at h; cases h
  | k + 1, z, y, h => by
    by_cases g : (dg (z * z).natAbs).length ≤ 400
    · rw [pwz_some g] at h
      rw [pwz_some g]
      exact pwz_succ k _ y h
    · rw [pwz_none g] at h; cases h
theorem pwz_ne : ∀ (k : Nat) (z y : Int), z ≠ 0 → pwz k z = some y → y ≠ 0
  | 0, z, y, h, e => by cases e; exact h
  | k + 1, z, y, h, e => by
    by_cases g : (dg (z * z).natAbs).length ≤ 400
    · rw [pwz_some g] at e
      exact pwz_ne k _ y (Int.mul_ne_zero h h) e
    · rw [pwz_none g] at e; cases e
theorem lb_get {z : Int} {k : Nat} {l h : Int} (e : lb z k = (l, h, true)) : ∃ y, z ≠ 0 ∧ pwz k z = some y ∧ l = (bl y.natAbs : Int) - 1 ∧ h = (bl y.natAbs : Int) := by
  unfold lb at e
  split at e
  · cases e
  · rename_i hz
    cases hP : pwz k z with
    | none => rw [hP] at e; cases e
    | some y => rw [hP] at e; cases e; exact ⟨y, hz, rfl, rfl, rfl⟩
theorem lb_one {z : Int} {k : Nat} {l h : Int} (e : lb z k = (l, h, true)) : h = l + 1 ∧ 0 ≤ l := by
  obtain ⟨y, hz, hy, rfl, rfl⟩ := lb_get e
  have h0 := pwz_ne k z y hz hy
  have h1 := bl_pos (n := y.natAbs) (by omega)
  exact ⟨by omega, by omega⟩
theorem lb_close {z : Int} {k : Nat} {l h : Int} (e : lb z (k + 1) = (l, h, true)) : ∃ b c, lb z k = (b, c, true) ∧ 2 * b ≤ l ∧ h ≤ 2 * c := by
  obtain ⟨y, hz, hy, rfl, rfl⟩ := lb_get e
  obtain ⟨x, hx, rfl⟩ := pwz_succ k z y hy
  have h0 := pwz_ne k z x hz hx
  have h1 := bl_sq (n := x.natAbs) (by omega)
  rw [← Int.natAbs_mul] at h1
  refine ⟨(bl x.natAbs : Int) - 1, (bl x.natAbs : Int), ?_, by omega, by omega⟩
  unfold lb
  rw [if_neg hz, hx]; rfl
theorem lg_get {n : Bool} {xs : List Int} {k l h : Int} (e : lgV n xs k = (l, h, true)) : ∃ (z : Int) (j : Nat), n = decide (z < 0) ∧ xs = dg z.natAbs ∧ (dg z.natAbs).length ≤ 400 ∧ k = j ∧ j ≤ 5 ∧ lb z j = (l, h, true) := by
  unfold lgV at e
  split at e
  · rename_i hc
    rw [Bool.and_eq_true] at hc
    obtain ⟨z, rfl, rfl, hl⟩ := whB_z hc.1
    have h5 := inB_iff.1 hc.2
    rw [zv_z] at e
    exact ⟨z, k.toNat, rfl, rfl, hl, by omega, by omega, e⟩
  · cases e
/-- Bounds of a logarithm: the next whole number, and twice the elder ones hold the newer ones. -/
theorem lg_law {n : Bool} {xs : List Int} {k l h : Int} (e : lgV n xs k = (l, h, true)) : h = l + 1 ∧ 0 ≤ l ∧ l ≤ 5600 ∧ (0 < k → ∃ b c, lgV n xs (k - 1) = (b, c, true) ∧ 2 * b ≤ l ∧ h ≤ 2 * c ∧ -1 ≤ b ∧ b ≤ 5600 ∧ 0 ≤ c ∧ c ≤ 5600) := by
  obtain ⟨z, j, rfl, rfl, hl, rfl, h5, e⟩ := lg_get e
  obtain ⟨h1, h2⟩ := lb_one e
  have h3 := lb_rng z j hl
  rw [e] at h3
  refine ⟨h1, h2, h3.2.1, fun hk => ?_⟩
  obtain ⟨i, rfl⟩ : ∃ i, j = i + 1 := ⟨j - 1, by omega⟩
  obtain ⟨b, c, hb, hc, hd⟩ := lb_close e
  have h4 := lb_rng z i hl
  rw [hb] at h4
  refine ⟨b, c, ?_, hc, hd, h4⟩
  rw [show ((i + 1 : Nat) : Int) - 1 = (i : Int) by omega, lg_2 hl (by omega), hb]
theorem rl_law {n m : Bool} {xs ys : List Int} {k p q : Int} (e : rlV n xs m ys k = (p, q, true)) : rlV m ys n xs k = (-q, -p, true) ∧ q = p + 2 ∧ -6000 ≤ p ∧ p ≤ 6000 := by
  unfold rlV at e
  split at e
  · rename_i hc
    rw [Bool.and_eq_true, Bool.and_eq_true] at hc
    obtain ⟨⟨hx, hy⟩, hk⟩ := hc
    obtain ⟨z, rfl, rfl, hl⟩ := whB_z hx
    obtain ⟨y, rfl, rfl, hm⟩ := whB_z hy
    have h5 := inB_iff.1 hk
    obtain ⟨j, rfl⟩ : ∃ j : Nat, k = j := ⟨k.toNat, by omega⟩
    rw [zv_z, zv_z, Int.toNat_natCast] at e
    rw [rl_3 hm hl (by omega)]
    have r1 := lb_rng z j hl; have r2 := lb_rng y j hm
    obtain ⟨l1, h1, o1, e1⟩ : ∃ l1 h1 o1, lb z j = (l1, h1, o1) := ⟨_, _, _, rfl⟩
    obtain ⟨l2, h2, o2, e2⟩ : ∃ l2 h2 o2, lb y j = (l2, h2, o2) := ⟨_, _, _, rfl⟩
    rw [e1, e2] at e
    rw [e1] at r1; rw [e2] at r2
    cases o1 <;> cases o2 <;> simp [rl3] at e
    obtain ⟨rfl, rfl⟩ := e
    have f1 := lb_one e1; have f2 := lb_one e2
    rw [e1, e2]
    simp only [rl3] at *
    refine ⟨?_, by omega, by omega, by omega⟩
    simp; omega
  · cases e
theorem val_nn {n : Bool} {xs : List Int} (h : whB n xs = true) : 0 ≤ val xs := by
  obtain ⟨z, rfl, rfl, hl⟩ := whB_z h
  exact val_nonneg (can_dg _).1

end Go.Proofs.Ytelkmldmebdcgaa
