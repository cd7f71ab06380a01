import Derived.Test.YtjgdajeoeagggaaGreatYPtA
set_option linter.unusedSimpArgs false
set_option linter.unusedVariables false
namespace Go.Proofs.YtjgdajeoeagggaaGreat
open Go.RowKit
/-! ### the sum of points: sizes, and the reference's last steps -/
theorem PV.rng {A B : Int} (hA : -1000 ≤ A ∧ A ≤ 1000) (hB : -10000 ≤ B ∧ B ≤ 10000) {p : P3} (h : EC.PV A B p) : p.1.natAbs ≤ 10000 ∧ p.2.1.natAbs ≤ 2000000 ∧ p.2.2.natAbs ≤ 20 ∧ 0 ≤ p.2.2 := by
  rcases h with rfl | ⟨h1, h2, h3, h4, h5, h6⟩
  · decide
  · have h7 := cvI_rng (a := A) (b := B) (x := p.1) (e := p.2.2) hA hB ⟨h1, h2⟩ ⟨by omega, by omega⟩
    have h8 : p.2.1.natAbs ≤ 2000000 := by
      rcases Nat.lt_or_ge 2000000 p.2.1.natAbs with g | g
      · exfalso
        have e1 : (p.2.1.natAbs : Int) * (p.2.1.natAbs : Int) = p.2.1 * p.2.1 := Int.natAbs_mul_self' _
        have e2 : (2000001 : Int) * 2000001 ≤ (p.2.1.natAbs : Int) * (p.2.1.natAbs : Int) := Int.mul_le_mul (by omega) (by omega) (by omega) (by omega)
        omega
      · exact g
    omega
theorem nmul {a b : Int} {x y : Nat} (h1 : a.natAbs ≤ x) (h2 : b.natAbs ≤ y) : (a * b).natAbs ≤ x * y := by rw [Int.natAbs_mul]; exact Nat.mul_le_mul h1 h2
theorem nadd {a b : Int} {x y : Nat} (h1 : a.natAbs ≤ x) (h2 : b.natAbs ≤ y) : (a + b).natAbs ≤ x + y := by omega
theorem nsub {a b : Int} {x y : Nat} (h1 : a.natAbs ≤ x) (h2 : b.natAbs ≤ y) : (a - b).natAbs ≤ x + y := by omega
theorem sN_rng {A : Int} (hA : A.natAbs ≤ 1000) {p q : P3} (hp : p.1.natAbs ≤ 10000 ∧ p.2.1.natAbs ≤ 2000000 ∧ p.2.2.natAbs ≤ 20 ∧ 0 ≤ p.2.2) (hq : q.1.natAbs ≤ 10000 ∧ q.2.1.natAbs ≤ 2000000 ∧ q.2.2.natAbs ≤ 20 ∧ 0 ≤ q.2.2) : (EC.sN A p q).natAbs ≤ 100000000000 := by
  obtain ⟨p1, p2, p3, -⟩ := hp
  obtain ⟨q1, q2, q3, -⟩ := hq
  unfold EC.sN
  split
  · exact Nat.le_trans (nadd (nmul (nmul (x := 3) (by decide) p1) p1) (nmul (nmul (nmul (nmul hA p3) p3) p3) p3)) (by decide)
  · exact Nat.le_trans (nsub (nmul (nmul (nmul q2 p3) p3) p3) (nmul (nmul (nmul p2 q3) q3) q3)) (by decide)
theorem sD_rng {p q : P3} (hp : p.1.natAbs ≤ 10000 ∧ p.2.1.natAbs ≤ 2000000 ∧ p.2.2.natAbs ≤ 20 ∧ 0 ≤ p.2.2) (hq : q.1.natAbs ≤ 10000 ∧ q.2.1.natAbs ≤ 2000000 ∧ q.2.2.natAbs ≤ 20 ∧ 0 ≤ q.2.2) : (EC.sD p q).natAbs ≤ 10000000000 := by
  obtain ⟨p1, p2, p3, -⟩ := hp
  obtain ⟨q1, q2, q3, -⟩ := hq
  unfold EC.sD
  split
  · exact Nat.le_trans (nmul (nmul (x := 2) (by decide) p2) p3) (by decide)
  · exact Nat.le_trans (nmul (nmul p3 q3) (nsub (nmul (nmul q1 p3) p3) (nmul (nmul p1 q3) q3))) (by decide)
theorem sD_opp {A B : Int} {p q : P3} (hp : EC.PV A B p) (hq : EC.PV A B q) (h : p = EC.opp q) : EC.sD p q = 0 := by
  subst h
  unfold EC.sD EC.opp
  split
  · rename_i h
    have : -q.2.1 = q.2.1 := congrArg (fun z : P3 => z.2.1) h
    have h0 : q.2.1 = 0 := by omega
    simp [h0]
  · simp only; grind
/-- Two fractions in lowest terms that are alike. -/
theorem low_uniq {x d X e : Int} (hd : 0 < d) (he : 0 < e) (g1 : Int.gcd x d = 1) (g2 : Int.gcd X e = 1) (h : d * X = x * e) : X = x ∧ e = d := by
  have h1 : d ∣ e := EC.dvd_of_gcd1 (b := x) ⟨X, h.symm⟩ (by rw [Int.gcd_comm]; exact g1)
  have h2 : e ∣ d := EC.dvd_of_gcd1 (b := X) ⟨x, by rw [Int.mul_comm X, h, Int.mul_comm]⟩ (by rw [Int.gcd_comm]; exact g2)
  have h3 := Int.le_of_dvd he h1
  have h4 := Int.le_of_dvd hd h2
  have h5 : e = d := by omega
  subst h5
  have h6 : e * X = e * x := by rw [h, Int.mul_comm]
  exact ⟨Int.eq_of_mul_eq_mul_left (by omega) h6, rfl⟩
theorem gcd_sq {X e : Int} (h : Int.gcd X e = 1) : Int.gcd X (e * e) = 1 := by
  rw [Int.gcd_comm]; exact EC.gcd_mul1 (by rw [Int.gcd_comm]; exact h) (by rw [Int.gcd_comm]; exact h)
theorem gcd_of_sq {X e : Int} (h : Int.gcd X (e * e) = 1) : Int.gcd X e = 1 := by
  unfold Int.gcd at *
  rw [Int.natAbs_mul] at h
  exact Nat.Coprime.coprime_mul_right_right h
theorem ref_none {A B : Int} {p q : P3} (hp : EC.PV A B p) (hq : EC.PV A B q) (p0 : p.2.2 ≠ 0) (q0 : q.2.2 ≠ 0) (hno : p ≠ EC.opp q) {n m d : Int} (hn : n * d = EC.sN A p q) (hm : m * d = EC.sD p q)   {x den g : Int} (hx : x * g = EC.topI p q n m) (hd : den * g = EC.botI p q m) (hpos : 0 < den) (hgc : Int.gcd x den = 1) (hc : ¬ (rt den * rt den = den ∧ rt den ≤ 20 ∧ -10000 ≤ x ∧ x ≤ 10000)) : EC.sumO A p q = none := by
  rcases h : EC.sumO A p q with _ | ⟨X, Y, e⟩
  · rfl
  · exfalso
    obtain ⟨r1, r2, r3, r4, r5, r6⟩ := EC.sum_miss hp hq p0 q0 hno hn hm h
    have hg : g ≠ 0 := by
      rintro rfl
      have := EC.bot_pos hp hq p0 q0 (EC.sum_core hp hq p0 q0 hno hn hm).1
      omega
    have h1 : den * X = x * (e * e) := by
      rw [← hx, ← hd] at r5
      have : g * (den * X) = g * (x * (e * e)) := by grind
      exact Int.eq_of_mul_eq_mul_left hg this
    obtain ⟨rfl, h2⟩ := low_uniq hpos (Int.mul_pos (by omega) (by omega)) hgc (gcd_sq r6) h1
    have h3 : rt den = e := rt_sq (by omega) h2
    exact hc (by rw [h3]; exact ⟨h2, r2, r3, r4⟩)
theorem ref_some {A B : Int} {p q : P3} (hp : EC.PV A B p) (hq : EC.PV A B q) (p0 : p.2.2 ≠ 0) (q0 : q.2.2 ≠ 0) (hno : p ≠ EC.opp q) {n m d : Int} (hn : n * d = EC.sN A p q) (hm : m * d = EC.sD p q)   {x den g : Int} (hx : x * g = EC.topI p q n m) (hd : den * g = EC.botI p q m) (hpos : 0 < den) (hgc : Int.gcd x den = 1) (hc : rt den * rt den = den ∧ rt den ≤ 20 ∧ -10000 ≤ x ∧ x ≤ 10000) :
    ∃ Y, EC.sumO A p q = some (x, Y, rt den) ∧ Y * (m * (p.2.2 * p.2.2 * p.2.2)) = rt den * EC.sideI p n m x (rt den) ∧ 1 ≤ rt den ∧ Y * Y = cvI A B x (rt den) := by
  obtain ⟨c1, c2, c3, c4⟩ := hc
  have h0 := rt_nonneg den
  have h1 : 1 ≤ rt den := by
    rcases Int.lt_or_le 0 (rt den) with g | g
    · omega
    · have : rt den = 0 := by omega
      rw [this] at c1; omega
  have h2 : Int.gcd x (rt den) = 1 := by rw [← c1] at hgc; exact gcd_of_sq hgc
  obtain ⟨Y, y1, y2, y3⟩ := EC.sum_hit hp hq p0 q0 hno hn hm (e := rt den) (X := x) h1 c2 c3 c4 (by rw [c1, ← hx, ← hd]; grind) h2
  exact ⟨Y, y1, y3, h1, y2⟩
theorem ring1 (g bot up P2 E1 Y1 under : Int) (_z : Int) : g * (bot * (up * P2 * E1 - Y1 * under)) = bot * (up * g * P2 * E1 - Y1 * (under * g)) := by grind
/-- The reference's y. -/
theorem ref_y {Y m n e P2 E1 Y1 W up under y bot g1 g2 : Int} (hm : m ≠ 0) (hE : E1 ≠ 0) (he : e ≠ 0) (hP : P2 = E1 * E1) (hY : Y * (m * (E1 * E1 * E1)) = e * (n * W * E1 - Y1 * m * e * e))
    (hu : up * g1 = n * W) (hv : under * g1 = m * P2 * e * e) (hy : y * g2 = up * P2 * E1 - Y1 * under) (hb : bot * g2 = under * P2 * E1) (hbp : 0 < bot) (hg : Int.gcd y bot = 1) : y * (e * e * e).tdiv bot = Y := by
  have hP0 : P2 ≠ 0 := by rw [hP]; exact Int.mul_ne_zero hE hE
  have hg10 : g1 ≠ 0 := by
    rintro rfl
    rw [Int.mul_zero] at hv
    exact Int.mul_ne_zero (Int.mul_ne_zero (Int.mul_ne_zero hm hP0) he) he hv.symm
  have hu0 : under ≠ 0 := by
    rintro rfl
    rw [Int.zero_mul] at hv
    exact Int.mul_ne_zero (Int.mul_ne_zero (Int.mul_ne_zero hm hP0) he) he hv.symm
  have hg20 : g2 ≠ 0 := by
    rintro rfl
    rw [Int.mul_zero] at hb
    exact Int.mul_ne_zero (Int.mul_ne_zero hu0 hP0) hE hb.symm
  have k1 : y * (under * P2 * E1) = bot * (up * P2 * E1 - Y1 * under) := by rw [← hy, ← hb]; grind
  have k2 : (y * (e * e * e)) * (m * (E1 * E1 * E1) * (P2 * P2)) = (bot * Y) * (m * (E1 * E1 * E1) * (P2 * P2)) := by
    have t1 : y * (m * P2 * e * e * P2 * E1) = bot * (n * W * P2 * E1 - Y1 * (m * P2 * e * e)) := by
      rw [← hu, ← hv]
      have : y * (under * g1 * P2 * E1) = g1 * (y * (under * P2 * E1)) := by grind
      rw [this, k1]
      exact ring1 _ _ _ _ _ _ _ 0
    have t2 : bot * Y * (m * (E1 * E1 * E1) * (P2 * P2)) = bot * (Y * (m * (E1 * E1 * E1))) * (P2 * P2) := by grind
    rw [t2, hY]
    have t3 : bot * (e * (n * W * E1 - Y1 * m * e * e)) * (P2 * P2) = (e * P2) * (bot * (n * W * P2 * E1 - Y1 * (m * P2 * e * e))) := by grind
    rw [t3, ← t1, hP]; grind
  have k3 : m * (E1 * E1 * E1) * (P2 * P2) ≠ 0 := Int.mul_ne_zero (Int.mul_ne_zero hm (Int.mul_ne_zero (Int.mul_ne_zero hE hE) hE)) (Int.mul_ne_zero hP0 hP0)
  have k4 := Int.eq_of_mul_eq_mul_right k3 k2
  have k5 : bot ∣ e * e * e := EC.dvd_of_gcd1 (b := y) ⟨Y, k4⟩ (by rw [Int.gcd_comm]; exact hg)
  obtain ⟨k, hk⟩ := k5
  rw [hk, Int.mul_tdiv_cancel_left _ (by omega)]
  rw [hk] at k4
  refine Int.eq_of_mul_eq_mul_left (a := bot) (by omega) ?_
  rw [← k4]; exact Int.mul_left_comm _ _ _
end Go.Proofs.YtjgdajeoeagggaaGreat
