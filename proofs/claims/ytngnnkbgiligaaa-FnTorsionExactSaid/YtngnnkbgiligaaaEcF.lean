import Derived.Test.YtngnnkbgiligaaaPtV
set_option linter.unusedSimpArgs false
set_option linter.unusedVariables false
namespace Go.Proofs.Ytngnnkbgiligaaa
/-! ### the told torsion points are the points of a finite order (up to 12): Nagell and Lutz -/

theorem ordGo_mul {A B : Int} {p : P3} (hp : EC.PV A B p) : ∀ (f : Nat) (n : Nat) (now : P3), EC.PV A B now → EC.toQ now = EC.nmul (A : Rat) n (EC.toQ p) → ∀ r, ordGo A p f ((n : Int) + 1) now = (r, true) → ∃ k : Nat, 1 ≤ k ∧ k ≤ n + f ∧ r = k ∧ EC.nmul (A : Rat) k (EC.toQ p) = none
  | 0, n, now, hn, h1, r, h => by simp [ordGo] at h
  | f + 1, n, now, hn, h1, r, h => by
    rcases hs : EC.sumO A now p with _ | q
    · rw [ordGo_none hs] at h; simp at h
    · obtain ⟨hq, hqq⟩ := EC.sumO_PV hn hp hs
      have h2 : EC.toQ q = EC.nmul (A : Rat) (n + 1) (EC.toQ p) := by rw [hqq, h1]; rfl
      by_cases h0 : q.2.2 = 0
      · rw [ordGo_fin hs h0] at h
        simp only [Prod.mk.injEq, and_true] at h
        refine ⟨n + 1, by omega, by omega, by omega, ?_⟩
        rw [← h2]
        unfold EC.toQ; rw [if_pos h0]
      · rw [ordGo_go hs h0] at h
        obtain ⟨k, k1, k2, k3, k4⟩ := ordGo_mul hp f (n + 1) q hq h2 r (by rw [← h]; congr 1)
        exact ⟨k, k1, by omega, k3, k4⟩
theorem ord_fin {A B : Int} {p : P3} (hp : EC.PV A B p) (h : (ordV A p).2 = true) : ∃ k : Nat, 1 ≤ k ∧ k ≤ 12 ∧ (ordV A p).1 = k ∧ EC.nmul (A : Rat) k (EC.toQ p) = none := by
  obtain ⟨r, b, hr⟩ : ∃ r b, ordV A p = (r, b) := ⟨_, _, rfl⟩
  rw [hr] at h ⊢
  simp only at h ⊢
  subst h
  obtain ⟨k, k1, k2, k3, k4⟩ := ordGo_mul hp 12 0 (0, 0, 0) (.inl rfl) (by unfold EC.toQ; rw [if_pos rfl]; rfl) r hr
  exact ⟨k, k1, by omega, k3, k4⟩
theorem cub_rng {A B X v : Int} (hA : -1000 ≤ A ∧ A ≤ 1000) (hB : -10000 ≤ B ∧ B ≤ 10000) (h0 : 0 ≤ v) (h1 : v ≤ 6700000000) (h : v = X * X * X + A * X + B) : -3000 ≤ X ∧ X ≤ 3000 := by
  constructor
  · rcases Int.lt_or_le X (-3000) with g | g
    · exfalso
      have e4 : (-X) * (-X) = X * X := by grind
      have e1 : (9000000 : Int) ≤ X * X := by
        have := Int.mul_le_mul (a := 3000) (b := 3000) (c := -X) (d := -X) (by omega) (by omega) (by omega) (by omega)
        omega
      have e2 : X * X * X ≤ X * X * (-3000) := Int.mul_le_mul_of_nonneg_left (by omega) (by omega)
      have e5 : A * X ≤ 1000 * (-X) := by
        have : (-A) * (-X) ≤ 1000 * (-X) := Int.mul_le_mul_of_nonneg_right (by omega) (by omega)
        have e6 : (-A) * (-X) = A * X := by grind
        omega
      have e7 : 3000 * (-X) ≤ X * X := by
        have := Int.mul_le_mul_of_nonneg_right (a := 3000) (b := -X) (c := -X) (by omega) (by omega)
        omega
      omega
    · exact g
  · rcases Int.lt_or_le 3000 X with g | g
    · exfalso
      have e1 : 3000 * X ≤ X * X := Int.mul_le_mul_of_nonneg_right (by omega) (by omega)
      have e2 : X * X * 3000 ≤ X * X * X := Int.mul_le_mul_of_nonneg_left (by omega) (by omega)
      have e3 : -(1000 * X) ≤ A * X := by
        have : (-1000) * X ≤ A * X := Int.mul_le_mul_of_nonneg_right (by omega) (by omega)
        omega
      omega
    · exact g
theorem ord_cds {A B : Int} (hC : isC A B = true) {p : P3} (hp : EC.PV A B p) (h0 : p.2.2 ≠ 0) (h : (ordV A p).2 = true) : p ∈ cds A B 6001 := by
  obtain ⟨hA, hB⟩ := isC_rng hC
  obtain ⟨-, -, -, -, hD⟩ := isC_ff hC
  obtain ⟨k, k1, k2, -, hk⟩ := ord_fin hp h
  obtain ⟨f1, f2, f3, f4, f5, f6⟩ := hp.fin h0
  obtain ⟨X, Y, E⟩ := p
  simp only at *
  have hdd : dsc A B = 4 * A * A * A + 27 * B * B := by
    have t1 := nmul (nmul (nmul (a := 4) (b := A) (x := 4) (y := 1000) (by decide) (by omega)) (show A.natAbs ≤ 1000 by omega)) (show A.natAbs ≤ 1000 by omega)
    have t2 := nmul (nmul (a := 27) (b := B) (x := 27) (y := 10000) (by decide) (by omega)) (show B.natAbs ≤ 10000 by omega)
    unfold dsc; exact win (by omega)
  have hDb : (dsc A B).natAbs ≤ 6700000000 := by
    have t1 := nmul (nmul (nmul (a := 4) (b := A) (x := 4) (y := 1000) (by decide) (by omega)) (show A.natAbs ≤ 1000 by omega)) (show A.natAbs ≤ 1000 by omega)
    have t2 := nmul (nmul (a := 27) (b := B) (x := 27) (y := 10000) (by decide) (by omega)) (show B.natAbs ≤ 10000 by omega)
    rw [hdd]; omega
  have hE : E = 1 := by
    have hq : EC.toQ (X, Y, E) = some ((X : Rat) * ((E : Rat)⁻¹ * (E : Rat)⁻¹), (Y : Rat) * ((E : Rat)⁻¹ * (E : Rat)⁻¹ * (E : Rat)⁻¹)) := by unfold EC.toQ; rw [if_neg h0]
    rw [hq] at hk
    exact EC.torsion_whole f3 f5 (EC.cvI_on f6) (EC.inv_ok h0) k1 k2 hk
  subst hE
  have hY2 : Y * Y = X * X * X + A * X + B := by rw [f6]; unfold cvI; grind
  have hdiv : Y = 0 ∨ Y * Y ∣ dsc A B := by
    by_cases hY : Y = 0
    · exact .inl hY
    · right
      rw [hdd]
      have hq : EC.toQ (X, Y, 1) = some ((X : Rat), (Y : Rat)) := EC.toQ_fin (by decide) (by simp) (by simp)
      rw [hq] at hk
      exact EC.lutz (by rw [← hdd]; exact hD) (EC.cvI_on f6) hY k1 k2 hk
  have hv : 0 ≤ Y * Y ∧ Y * Y ≤ 6700000000 := by
    have h1 : 0 ≤ Y * Y := by rw [← Int.natAbs_mul_self' Y]; exact Int.mul_nonneg (by omega) (by omega)
    refine ⟨h1, ?_⟩
    rcases hdiv with rfl | hd
    · decide
    · have := Nat.le_of_dvd (by omega) (Int.natAbs_dvd_natAbs.2 hd)
      omega
  obtain ⟨x1, x2⟩ := cub_rng hA hB hv.1 hv.2 hY2
  have hcv := cVal_in (a := A) (b := B) (x := X) (e := 1) hA hB ⟨by omega, by omega⟩ ⟨by omega, by omega⟩
  have hcY : cVal A B X 1 = Y * Y := by rw [hcv, f6]
  unfold cds
  refine List.mem_flatMap.2 ⟨(X + 3000).toNat, List.mem_range.2 (by omega), ?_⟩
  have eX : -3000 + (((X + 3000).toNat : Nat) : Int) = X := by omega
  rw [eX]
  unfold cnd
  have hcond : cVal A B X 1 = 0 ∨ (dsc A B).tmod (cVal A B X 1) = 0 := by
    rcases hdiv with hY | hd
    · left; rw [hcY, hY]; rfl
    · right; rw [hcY]; exact Int.tmod_eq_zero_of_dvd hd
  rw [if_pos hcond]
  have hsq : sqB (cVal A B X 1) = true := by rw [hcY]; exact sqB_iff.2 ⟨Y.natAbs, by omega, Int.natAbs_mul_self' Y⟩
  have hrt : rt (cVal A B X 1) = Y.natAbs := by rw [hcY]; exact rt_sq (by omega) (Int.natAbs_mul_self' Y)
  unfold ptsX
  rw [if_pos hsq]
  by_cases hY : Y = 0
  · subst hY
    rw [if_pos (by rw [hcY]; rfl)]
    exact List.mem_singleton.2 rfl
  · rw [if_neg (by rw [hcY]; exact Int.mul_ne_zero hY hY), hrt]
    rcases Int.lt_or_le Y 0 with g | g
    · exact List.mem_cons.2 (.inl (by rw [show -((Y.natAbs : Nat) : Int) = Y by omega]))
    · exact List.mem_cons.2 (.inr (List.mem_singleton.2 (by rw [show ((Y.natAbs : Nat) : Int) = Y by omega])))
theorem ordV_zero2 (A : Int) : (ordV A (0, 0, 0)).2 = true := by
  have : ordV A (0, 0, 0) = (1, true) := by
    unfold ordV
    exact ordGo_fin (q := (0, 0, 0)) (sumO_zl (B := 0) (.inl rfl)) rfl
  rw [this]
/-- The told torsion points are the points of an order up to 12. -/
theorem mem_tps {A B : Int} (hC : isC A B = true) {p : P3} (hp : EC.PV A B p) : p ∈ tps A B ↔ (ordV A p).2 = true := by
  unfold tps
  constructor
  · intro h
    rcases List.mem_cons.1 h with rfl | h
    · exact ordV_zero2 A
    · exact (List.mem_filter.1 h).2
  · intro h
    by_cases h0 : p.2.2 = 0
    · have : p = (0, 0, 0) := by
        rcases hp with h1 | ⟨-, -, h3, -⟩
        · exact h1
        · omega
      rw [this]; exact List.mem_cons_self
    · exact List.mem_cons.2 (.inr (List.mem_filter.2 ⟨ord_cds hC hp h0 h, h⟩))

end Go.Proofs.Ytngnnkbgiligaaa
