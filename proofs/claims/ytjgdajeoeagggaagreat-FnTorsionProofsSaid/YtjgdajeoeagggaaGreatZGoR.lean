import Derived.Test.YtjgdajeoeagggaaGreatZGoQ
import Derived.Test.YtjgdajeoeagggaaGreatZEcD
set_option linter.unusedSimpArgs false
set_option linter.unusedVariables false
namespace Go.Proofs.YtjgdajeoeagggaaGreat
open Go.RowKit
/-! ### reduction modulo a prime: reduced points lie on the reduced curve, doubles reduce to doubles -/
theorem pr_mul {q a b : Int} (hq : Pr q) (h : q ∣ a * b) : q ∣ a ∨ q ∣ b := by
  have h2 := hq.1
  by_cases g : q ∣ a
  · exact .inl g
  · right
    have hg : Int.gcd q a = 1 := by
      have d1 : ((Int.gcd q a : Nat) : Int) ∣ q := Int.gcd_dvd_left _ _
      have d2 : ((Int.gcd q a : Nat) : Int) ∣ a := Int.gcd_dvd_right _ _
      have p0 : Int.gcd q a ≠ 0 := fun h0 => by have := Int.gcd_eq_zero_iff.1 h0; omega
      generalize Int.gcd q a = d at *
      by_cases h1 : d = 1
      · exact h1
      · exfalso
        by_cases h3 : (d : Int) = q
        · rw [h3] at d2; exact g d2
        · have hle := Int.le_of_dvd (by omega) d1
          exact pr_div hq (d := d) (by omega) (by omega) (Int.emod_eq_zero_of_dvd d1)
    exact EC.dvd_of_gcd1 h hg
theorem pr_pow {q a : Int} (hq : Pr q) : ∀ n : Nat, q ∣ a ^ n → q ∣ a
  | 0, h => by
    have h1 : q ∣ 1 := by simpa using h
    have := Int.le_of_dvd (by omega) h1
    have := hq.1; omega
  | n + 1, h => by
    rw [Int.pow_succ] at h
    rcases pr_mul hq h with h | h
    · exact pr_pow hq n h
    · exact h
/-- A power with exponent q - 2 is an inverse. -/
theorem inv_mod {q a : Int} (hq : Pr q) (h3 : 3 ≤ q) (h9 : q ≤ 997) (ha : ¬ q ∣ a) : q ∣ a * pw a (q - 2) q - 1 := by
  have hodd : q % 2 = 1 := by
    have := fun h => hq.2 2 (by omega) h
    by_cases g : 4 ≤ q
    · have := hq.2 2 (by omega) (by omega); omega
    · omega
  have e1 : q ∣ pw a (q - 2) q - a ^ (q - 2).toNat := by
    unfold pw
    exact Int.dvd_of_emod_eq_zero (by rw [Int.sub_emod, Int.emod_emod, Int.sub_self]; rfl)
  have e2 : a * a ^ (q - 2).toNat = a ^ ((q - 1) / 2).toNat * a ^ ((q - 1) / 2).toNat := by
    rw [← Int.pow_add, Int.mul_comm, ← Int.pow_succ]
    congr 1; omega
  have e3 : q ∣ a ^ ((q - 1) / 2).toNat * a ^ ((q - 1) / 2).toNat - 1 := by
    have hc := pw_cases (a := a) hq h3 h9
    have e4 : q ∣ a ^ ((q - 1) / 2).toNat - pw a ((q - 1) / 2) q := by
      unfold pw
      exact Int.dvd_of_emod_eq_zero (by rw [Int.sub_emod, Int.emod_emod, Int.sub_self]; rfl)
    have e5 : ¬ q ∣ a ^ ((q - 1) / 2).toNat := fun h => ha (pr_pow hq _ h)
    clear e1 e2
    generalize a ^ ((q - 1) / 2).toNat = t at *
    obtain ⟨k, hk⟩ := e4
    rcases hc with h | h | h
    · exfalso
      rw [h] at hk
      exact e5 ⟨k, by omega⟩
    · rw [h] at hk
      have h5 : t = 1 + q * k := by omega
      exact ⟨k * (t + 1), by rw [h5]; grind⟩
    · rw [h] at hk
      have h5 : t = q * (k + 1) - 1 := by grind
      exact ⟨(k + 1) * (q * (k + 1) - 2), by rw [h5]; grind⟩
  obtain ⟨k1, h1⟩ := e1
  obtain ⟨k2, h2⟩ := e3
  rw [← e2] at h2
  exact ⟨a * k1 + k2, by grind⟩
/-! congruences -/
theorem emq (a q : Int) : q ∣ a % q - a := Int.dvd_of_emod_eq_zero (by rw [Int.sub_emod, Int.emod_emod, Int.sub_self]; rfl)
theorem c1 {q a u : Int} (h : q ∣ u) (e : a = u) : q ∣ a := e ▸ h
theorem l1 {q u : Int} (c : Int) (h : q ∣ u) : q ∣ c * u := Int.dvd_mul_of_dvd_right h
theorem l2 {q u v : Int} (c d : Int) (h : q ∣ u) (k : q ∣ v) : q ∣ c * u + d * v := Int.dvd_add (l1 c h) (l1 d k)
theorem l3 {q u v x : Int} (c d e : Int) (h : q ∣ u) (k : q ∣ v) (m : q ∣ x) : q ∣ c * u + d * v + e * x := Int.dvd_add (l2 c d h k) (l1 e m)
theorem l4 {q u v x y : Int} (c d e f : Int) (h : q ∣ u) (k : q ∣ v) (m : q ∣ x) (n : q ∣ y) : q ∣ c * u + d * v + e * x + f * y := Int.dvd_add (l3 c d e h k m) (l1 f n)
theorem eq_of_cong {q a b : Int} (h : q ∣ a - b) (h1 : 0 ≤ a) (h2 : a < q) (h3 : 0 ≤ b) (h4 : b < q) : a = b := by
  obtain ⟨k, hk⟩ := h
  rcases Int.lt_trichotomy k 0 with g | g | g
  · have := Int.mul_le_mul_of_nonneg_left (show k ≤ -1 by omega) (show 0 ≤ q by omega); omega
  · subst g; omega
  · have := Int.mul_le_mul_of_nonneg_left (show 1 ≤ k by omega) (show 0 ≤ q by omega); omega
theorem emod_cong {q a b : Int} (h : q ∣ a - b) : a % q = b % q := by
  rw [Int.emod_eq_emod_iff_emod_sub_eq_zero]; exact Int.emod_eq_zero_of_dvd h
/-- The reduced coordinates as congruences. -/
theorem red_x (x i q : Int) : q ∣ x % q * i % q * i % q - x * i * i := by
  have a1 := emq x q
  have a2 := emq (x % q * i) q
  have a3 := emq (x % q * i % q * i) q
  exact c1 (l3 1 i (i * i) a3 a2 a1) (by grind)
theorem red_y (y i q : Int) : q ∣ y % q * i % q * i % q * i % q - y * i * i * i := by
  have a1 := red_x y i q
  have a3 := emq (y % q * i % q * i % q * i) q
  exact c1 (l2 1 i a3 a1) (by grind)
/-- Reduced points lie on the reduced curve. -/
theorem red_on {A B q X Y E : Int} (hq : Pr q) (h3 : 3 ≤ q) (h9 : q ≤ 997) (h : EC.OnC A B X Y E) : OnF A B q (rdL X Y E q) := by
  unfold rdL
  by_cases h0 : E % q = 0
  · rw [if_pos h0]; exact .inl rfl
  · rw [if_neg h0]
    have hE : ¬ q ∣ E := fun g => h0 (Int.emod_eq_zero_of_dvd g)
    have hi := inv_mod hq h3 h9 hE
    generalize pw E (q - 2) q = i at *
    obtain ⟨b1, b2⟩ := em_bd (X % q * i % q * i) (p := q) (by omega)
    obtain ⟨b3, b4⟩ := em_bd (Y % q * i % q * i % q * i) (p := q) (by omega)
    refine .inr ⟨_, _, rfl, b1, b2, b3, b4, ?_⟩
    have gx := red_x X i q
    have gy := red_y Y i q
    generalize X % q * i % q * i % q = x at *
    generalize Y % q * i % q * i % q * i % q = y at *
    unfold fv
    apply emod_cong
    unfold EC.OnC at h
    -- y*y - (x^3+Ax+B)
    have e1 : q ∣ y * y - Y * Y * (i * i * i * i * i * i) := c1 (l2 y (Y * i * i * i) gy gy) (by grind)
    have e2 : q ∣ x * x * x - X * X * X * (i * i * i * i * i * i) := c1 (l1 (x * x + x * (X * i * i) + X * i * i * (X * i * i)) gx) (by grind)
    have e3 : q ∣ E * i * (E * i) * (E * i) * (E * i) - 1 := c1 (l1 (1 + E * i + E * i * (E * i) + E * i * (E * i) * (E * i)) hi) (by grind)
    have e4 : q ∣ E * i * (E * i) * (E * i) * (E * i) * (E * i) * (E * i) - 1 := c1 (l1 (1 + E * i + E * i * (E * i) + E * i * (E * i) * (E * i) + E * i * (E * i) * (E * i) * (E * i) + E * i * (E * i) * (E * i) * (E * i) * (E * i)) hi) (by grind)
    have e5 : Y * Y * (i * i * i * i * i * i) = X * X * X * (i * i * i * i * i * i) + A * X * (E * E * E * E) * (i * i * i * i * i * i) + B * (E * E * E * E * E * E) * (i * i * i * i * i * i) := by rw [h]; grind
    rw [e5] at e1
    have e6 := l4 1 (-1) (-A) 0 e1 e2 gx gx
    have e7 := l4 1 (A * X * i * i) B 0 e6 e3 e4 gx
    exact c1 e7 (by grind)
theorem pr_nd {q a b : Int} (hq : Pr q) (ha : ¬ q ∣ a) (hb : ¬ q ∣ b) : ¬ q ∣ a * b := fun h => (pr_mul hq h).elim ha hb
theorem pr_small {q c : Int} (h3 : 5 ≤ q) (h1 : 1 ≤ c) (h4 : c ≤ 4) : ¬ q ∣ c := fun h => by have := Int.le_of_dvd (by omega) h; omega
theorem gcd_not {q X E : Int} (hq : Pr q) (g : Int.gcd X E = 1) (hE : q ∣ E) : ¬ q ∣ X := by
  intro hX
  have h := Int.dvd_coe_gcd hX hE
  rw [g] at h
  have := Int.le_of_dvd (by omega) h
  have := hq.1; simp at *; omega
theorem low_x {q x X E i : Int} (gx : q ∣ x - X * i * i) (hi : q ∣ E * i - 1) : q ∣ x * E * E - X :=
  c1 (l2 (E * E) (X * (E * i + 1)) gx hi) (by grind)
theorem low_y {q y Y E i : Int} (gy : q ∣ y - Y * i * i * i) (hi : q ∣ E * i - 1) : q ∣ y * E * E * E - Y :=
  c1 (l2 (E * E * E) (Y * (E * i * (E * i) + E * i + 1)) gy hi) (by grind)
/-- Doubles reduce to doubles. -/
theorem dbl_red {A B q X Y E X' Y' E' : Int} (hq : Pr q) (h5 : 5 ≤ q) (h9 : q ≤ 997) (hD : ¬ q ∣ 4 * A * A * A + 27 * B * B) (h : EC.OnC A B X Y E) (g : Int.gcd X E = 1) (g' : Int.gcd X' E' = 1)
    (e1 : X' * (4 * Y * Y * E * E) = E' * E' * ((3 * X * X + A * (E * E * E * E)) * (3 * X * X + A * (E * E * E * E)) - 8 * X * Y * Y))
    (e2 : 2 * Y * (E * E * E) * Y' = E' * (3 * X * X + A * (E * E * E * E)) * (X * E' * E' - X' * E * E) - 2 * Y * Y * (E' * E' * E')) :
    rdL X' Y' E' q = dbL A q (rdL X Y E q) := by
  unfold EC.OnC at h
  have HH := Lib.hid h; have H1 := Lib.hid e1; have H2 := Lib.hid e2; clear h e1 e2
  by_cases hE0 : E % q = 0
  · have hE : q ∣ E := Int.dvd_of_emod_eq_zero hE0
    have hX := gcd_not hq g hE
    have hE' : q ∣ E' := by
      have k1 : q ∣ E' * E' * ((3 * X * X + A * (E * E * E * E)) * (3 * X * X + A * (E * E * E * E)) - 8 * X * Y * Y) := by
        rw [← H1.out]; exact c1 (l1 (X' * (4 * Y * Y * E)) hE) (by grind)
      rcases pr_mul hq k1 with k | k
      · exact (pr_mul hq k).elim id id
      · exfalso
        have e : (3 * X * X + A * (E * E * E * E)) * (3 * X * X + A * (E * E * E * E)) - 8 * X * Y * Y = X * X * (X * X) + E * (6 * A * X * X * (E * E * E) + A * A * (E * E * E * E * E * E * E) - 8 * A * X * X * (E * E * E) - 8 * B * X * (E * E * E * E * E)) := by
          have : 8 * X * Y * Y = 8 * X * (Y * Y) := by grind
          rw [this, HH.out]; grind
        rw [e] at k
        have k2 : q ∣ X * X * (X * X) := c1 (l2 1 (-(6 * A * X * X * (E * E * E) + A * A * (E * E * E * E * E * E * E) - 8 * A * X * X * (E * E * E) - 8 * B * X * (E * E * E * E * E))) k hE) (by grind)
        exact pr_nd hq (pr_nd hq hX hX) (pr_nd hq hX hX) k2
    unfold rdL
    rw [if_pos hE0, if_pos (Int.emod_eq_zero_of_dvd hE')]
    rfl
  · have hE : ¬ q ∣ E := fun k => hE0 (Int.emod_eq_zero_of_dvd k)
    have hi := inv_mod hq (by omega) h9 hE
    rw [show rdL X Y E q = [X % q * pw E (q - 2) q % q * pw E (q - 2) q % q, Y % q * pw E (q - 2) q % q * pw E (q - 2) q % q * pw E (q - 2) q % q] from by unfold rdL; rw [if_neg hE0]]
    generalize pw E (q - 2) q = i at *
    have hxE := low_x (red_x X i q) hi
    have hyE := low_y (red_y Y i q) hi
    obtain ⟨x1, x2⟩ := em_bd (X % q * i % q * i) (p := q) (by omega)
    obtain ⟨y1, y2⟩ := em_bd (Y % q * i % q * i % q * i) (p := q) (by omega)
    generalize X % q * i % q * i % q = x at *
    generalize Y % q * i % q * i % q * i % q = y at *
    have yY : q ∣ y ↔ q ∣ Y := by
      constructor
      · intro k; exact c1 (l2 (E * E * E) (-1) k hyE) (by grind)
      · intro k
        have : q ∣ y * E * E * E := c1 (l2 1 1 k hyE) (by grind)
        rcases pr_mul hq this with k | k
        · rcases pr_mul hq k with k | k
          · rcases pr_mul hq k with k | k
            · exact k
            · exact absurd k hE
          · exact absurd k hE
        · exact absurd k hE
    have n2 : ¬ q ∣ 2 := pr_small h5 (by omega) (by omega)
    by_cases hY : q ∣ Y
    · have hy := yY.2 hY
      have hz : (y + y) % q = 0 := Int.emod_eq_zero_of_dvd (Int.dvd_add hy hy)
      have hE' : q ∣ E' := by
        have k1 : q ∣ E' * E' * ((3 * X * X + A * (E * E * E * E)) * (3 * X * X + A * (E * E * E * E)) - 8 * X * Y * Y) := by
          rw [← H1.out]; exact c1 (l1 (X' * (4 * Y * E * E)) hY) (by grind)
        rcases pr_mul hq k1 with k | k
        · exact (pr_mul hq k).elim id id
        · exfalso
          have k2 : q ∣ (3 * X * X + A * (E * E * E * E)) * (3 * X * X + A * (E * E * E * E)) := c1 (l2 1 (8 * X * Y) k hY) (by grind)
          have k3 : q ∣ 3 * X * X + A * (E * E * E * E) := (pr_mul hq k2).elim id id
          have k4 : q ∣ 2 * A * X * (E * E * E * E) + 3 * B * (E * E * E * E * E * E) := by
            have : q ∣ 3 * (Y * Y) - X * (3 * X * X + A * (E * E * E * E)) := c1 (l2 (3 * Y) (-X) hY k3) (by grind)
            exact c1 this (by rw [HH.out]; grind)
          have k5 : q ∣ (4 * A * A * A + 27 * B * B) * (E * E * E * E * E * E * (E * E * E * E * E * E)) :=
            c1 (l2 (4 * A * A * (E * E * E * E * (E * E * E * E))) (-3 * (2 * A * X * (E * E * E * E) + 3 * B * (E * E * E * E * E * E)) + 18 * B * (E * E * E * E * E * E)) k3 k4) (by grind)
          have hE2 := pr_nd hq hE hE
          have hE6 : ¬ q ∣ E * E * E * E * E * E := pr_nd hq (pr_nd hq (pr_nd hq (pr_nd hq hE2 hE) hE) hE) hE
          exact pr_nd hq hD (pr_nd hq hE6 hE6) k5
      rw [dbL_z hz]
      unfold rdL
      rw [if_pos (Int.emod_eq_zero_of_dvd hE')]
    · have hy : ¬ q ∣ y := fun k => hY (yY.1 k)
      have hz : ¬ (y + y) % q = 0 := by
        intro k
        have k := Int.dvd_of_emod_eq_zero k
        exact pr_nd hq n2 hy (c1 k (by grind))
      have n4 : ¬ q ∣ 4 * Y * Y * E * E := pr_nd hq (pr_nd hq (pr_nd hq (pr_nd hq (pr_small h5 (by omega) (by omega)) hY) hY) hE) hE
      have hE' : ¬ q ∣ E' := by
        intro k
        have k1 : q ∣ X' * (4 * Y * Y * E * E) := by rw [H1.out]; exact c1 (l1 (E' * ((3 * X * X + A * (E * E * E * E)) * (3 * X * X + A * (E * E * E * E)) - 8 * X * Y * Y)) k) (by grind)
        exact pr_nd hq (gcd_not hq g' k) n4 k1
      rw [dbL_n hz]
      have hj := inv_mod hq (by omega) h9 hE'
      have hI := inv_mod hq (by omega) h9 (pr_nd hq n2 hy)
      rw [show rdL X' Y' E' q = [X' % q * pw E' (q - 2) q % q * pw E' (q - 2) q % q, Y' % q * pw E' (q - 2) q % q * pw E' (q - 2) q % q * pw E' (q - 2) q % q] from by unfold rdL; rw [if_neg (fun k => hE' (Int.dvd_of_emod_eq_zero k))]]
      generalize pw E' (q - 2) q = j at *
      have hxE' := low_x (red_x X' j q) hj
      have hyE' := low_y (red_y Y' j q) hj
      obtain ⟨x3, x4⟩ := em_bd (X' % q * j % q * j) (p := q) (by omega)
      obtain ⟨y3, y4⟩ := em_bd (Y' % q * j % q * j % q * j) (p := q) (by omega)
      generalize X' % q * j % q * j % q = x' at *
      generalize Y' % q * j % q * j % q * j % q = y' at *
      have hN := emq (3 * x * x + A) q
      generalize (3 * x * x + A) % q = N at *
      generalize pw (2 * y) (q - 2) q = I at *
      have hM := emq (N * I) q
      generalize N * I % q = M at *
      have hMy : q ∣ M * (2 * y) - (3 * x * x + A) := c1 (l3 (2 * y) N 1 hM hI hN) (by grind)
      have hMn : q ∣ 2 * M * Y * E - (3 * X * X + A * (E * E * E * E)) := c1 (l3 (-(2 * M * E)) (E * E * E * E) (3 * (x * E * E + X)) hyE hMy hxE) (by grind)
      have n5 : ¬ q ∣ E' * E' := pr_nd hq hE' hE'
      have hZ : q ∣ (3 * X * X + A * (E * E * E * E)) * (3 * X * X + A * (E * E * E * E)) - 8 * X * Y * Y - 4 * Y * Y * E * E * x' := by
        have k1 : q ∣ E' * E' * ((3 * X * X + A * (E * E * E * E)) * (3 * X * X + A * (E * E * E * E)) - 8 * X * Y * Y - 4 * Y * Y * E * E * x') := by
          refine c1 (l1 (-(4 * Y * Y * E * E)) hxE') ?_
          have : E' * E' * ((3 * X * X + A * (E * E * E * E)) * (3 * X * X + A * (E * E * E * E)) - 8 * X * Y * Y - 4 * Y * Y * E * E * x') = E' * E' * ((3 * X * X + A * (E * E * E * E)) * (3 * X * X + A * (E * E * E * E)) - 8 * X * Y * Y) - E' * E' * (4 * Y * Y * E * E * x') := by grind
          rw [this, ← H1.out]; grind
        exact (pr_mul hq k1).resolve_left n5
      have hx : q ∣ M * M - x - x - x' := by
        have k1 : q ∣ 4 * Y * Y * E * E * (M * M - x - x - x') := c1 (l3 (2 * M * Y * E + (3 * X * X + A * (E * E * E * E))) (-(8 * Y * Y)) 1 hMn hxE hZ) (by grind)
        exact (pr_mul hq k1).resolve_left n4
      have ex : x' = (M * M - x - x) % q := by
        obtain ⟨b1, b2⟩ := em_bd (M * M - x - x) (p := q) (by omega)
        have := emq (M * M - x - x) q
        exact eq_of_cong (c1 (l2 (-1) (-1) this hx) (by grind)) x3 x4 b1 b2
      rw [← ex]
      have n6 : ¬ q ∣ 2 * Y * (E * E * E) * (E' * E' * E') := pr_nd hq (pr_nd hq (pr_nd hq n2 hY) (pr_nd hq (pr_nd hq hE hE) hE)) (pr_nd hq n5 hE')
      have hyy : q ∣ M * (x - x') - y - y' := by
        have k1 : q ∣ 2 * Y * (E * E * E) * (E' * E' * E') * (M * (x - x') - y - y') := by
          have k2 := l4 (E * E * (E' * E' * E') * (x - x')) ((3 * X * X + A * (E * E * E * E)) * (E' * E' * E')) (-((3 * X * X + A * (E * E * E * E)) * E' * (E * E))) (-(2 * Y * (E' * E' * E'))) hMn hxE hxE' hyE
          have k3 := l2 1 (-(2 * Y * (E * E * E))) k2 hyE'
          refine c1 k3 ?_
          have : E' * (3 * X * X + A * (E * E * E * E)) * (X * E' * E' - X' * E * E) - 2 * Y * Y * (E' * E' * E') - 2 * Y * (E * E * E) * Y' = 0 := by rw [H2.out]; omega
          grind
        exact (pr_mul hq k1).resolve_left n6
      have ey : y' = (M * (x - x') - y) % q := by
        obtain ⟨b1, b2⟩ := em_bd (M * (x - x') - y) (p := q) (by omega)
        have := emq (M * (x - x') - y) q
        exact eq_of_cong (c1 (l2 (-1) (-1) this hyy) (by grind)) y3 y4 b1 b2
      rw [← ey]
theorem rdL_zero (q : Int) : rdL 0 0 0 q = [] := by unfold rdL; simp
theorem rdL_y0 {a x e q : Int} : dbL a q (rdL x 0 e q) = [] := by
  unfold rdL
  split
  · rfl
  · refine dbL_z ?_
    simp
/-- The double that is told reduces to the double of the reduced point. -/
theorem dbl_law {a b x y e u v t q : Int} (hp : ptB a b x y e = true) (hg : gdB a b q = true) (h : EC.sumO a (x, y, e) (x, y, e) = some (u, v, t)) :
    EC.PV a b (u, v, t) ∧ rdL u v t q = dbL a q (rdL x y e q) := by
  obtain ⟨hC, pv⟩ := ptB_PVG hp
  obtain ⟨h5, h9, hq, hd⟩ := gdB_iff.1 hg
  refine ⟨(EC.sumO_PV pv pv h).1, ?_⟩
  by_cases he : e = 0
  · subst he
    have hz : x = 0 ∧ y = 0 := by
      rcases pv with k | ⟨-, -, k, -⟩
      · simp only [Prod.mk.injEq] at k; exact ⟨k.1, k.2.1⟩
      · simp at k
    obtain ⟨rfl, rfl⟩ := hz
    have := EC.add_opp pv pv (by unfold EC.opp; simp)
    rw [this] at h
    obtain ⟨rfl, rfl, rfl⟩ : 0 = u ∧ 0 = v ∧ 0 = t := by simpa using h
    rw [rdL_y0, rdL_zero]
  · by_cases hy : y = 0
    · subst hy
      have := EC.add_opp pv pv (by unfold EC.opp; simp)
      rw [this] at h
      obtain ⟨rfl, rfl, rfl⟩ : 0 = u ∧ 0 = v ∧ 0 = t := by simpa using h
      rw [rdL_y0, rdL_zero]
    · obtain ⟨x1, x2, e1, e2, hgc, hon⟩ := pv.fin he
      have hno : (x, y, e) ≠ EC.opp (x, y, e) := by
        unfold EC.opp; simp only [ne_eq, Prod.mk.injEq, true_and, and_true]; omega
      have hn : (3 * x * x + a * e * e * e * e) * 1 = EC.sN a (x, y, e) (x, y, e) := by unfold EC.sN; simp
      have hm : (2 * y * e) * 1 = EC.sD (x, y, e) (x, y, e) := by unfold EC.sD; simp
      obtain ⟨k1, k2, k3, k4, k5, k6⟩ := EC.sum_miss pv pv he he hno hn hm h
      obtain ⟨Y2, j1, j2, j3⟩ := EC.sum_hit pv pv he he hno hn hm k1 k2 k3 k4 k5 k6
      rw [h] at j1
      obtain rfl : v = Y2 := by simpa using j1
      have hdd : ¬ q ∣ 4 * a * a * a + 27 * b * b := by
        rw [(dsc_bd hC).1] at hd
        exact fun k => hd (Int.emod_eq_zero_of_dvd k)
      unfold EC.botI EC.topI EC.eeI at k5
      unfold EC.sideI at j3
      simp only at k5 j3
      have hE4 : e * e * e * e ≠ 0 := Int.mul_ne_zero (Int.mul_ne_zero (Int.mul_ne_zero he he) he) he
      clear j1 h
      have HJ := Lib.hid j3
      refine dbl_red hq h5 h9 hdd (EC.cvI_on hon) hgc k6 ?_ ?_
      · clear j3 j2 HJ
        apply Int.eq_of_mul_eq_mul_left hE4
        have e1 : e * e * e * e * (u * (4 * y * y * e * e)) = 2 * y * e * (2 * y * e) * (e * e * e * e) * u := by grind
        rw [e1, k5]
        grind
      · clear k5 j2 hon
        apply Int.eq_of_mul_eq_mul_left he
        have e1 : e * (2 * y * (e * e * e) * v) = v * (2 * y * e * (e * e * e)) := by grind
        rw [e1, HJ.out]
        clear HJ j3
        grind
theorem red_law {a b x y e q : Int} (hp : ptB a b x y e = true) (hg : gdB a b q = true) : OnF a b q (rdL x y e q) := by
  obtain ⟨hC, pv⟩ := ptB_PVG hp
  obtain ⟨h5, h9, hq, hd⟩ := gdB_iff.1 hg
  by_cases he : e = 0
  · subst he
    unfold rdL; rw [if_pos (by simp)]; exact .inl rfl
  · obtain ⟨-, -, -, -, -, hon⟩ := pv.fin he
    exact red_on hq (by omega) h9 (EC.cvI_on hon)
end Go.Proofs.YtjgdajeoeagggaaGreat
