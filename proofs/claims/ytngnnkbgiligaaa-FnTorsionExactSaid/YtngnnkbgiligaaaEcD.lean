import Derived.Test.YtngnnkbgiligaaaEcC
import Derived.Test.YtngnnkbgiligaaaPon
import Derived.Test.YtngnnkbgiligaaaPts
import Derived.Test.YtngnnkbgiligaaaRoot
set_option linter.unusedVariables false
set_option linter.unusedSimpArgs false
namespace Go.Proofs.Ytngnnkbgiligaaa.EC
open Go.Proofs.Ytngnnkbgiligaaa
/-! the sum of the program's points, by the rational ones -/
theorem rat_sq_int {q : Rat} {N : Int} (h : q * q = (N : Rat)) : ∃ m : Int, q = (m : Rat) ∧ m * m = N := by
  have h1 : (q ^ 2).den = 1 := by
    have : q ^ 2 = (N : Rat) := by rw [Rat.pow_succ, Rat.pow_one]; exact h
    rw [this, Rat.den_intCast]
  rw [Rat.den_pow] at h1
  have h2 : q.den = 1 := by
    have h3 : q.den ∣ 1 := by rw [← h1]; exact ⟨q.den ^ 1, by rw [Nat.pow_succ, Nat.pow_one, Nat.mul_comm]⟩
    exact Nat.dvd_one.1 h3
  have h4 : q = (q.num : Rat) := Rat.ext (by rw [Rat.num_intCast]) (by rw [Rat.den_intCast, h2])
  refine ⟨q.num, h4, ?_⟩
  rw [h4] at h
  rw [← Rat.intCast_mul] at h
  have := Rat.intCast_inj.1 h
  simpa using this
/-- A fraction in lowest terms is told by its parts. -/
theorem rat_lowest {q : Rat} {x : Int} {d : Nat} (hd : d ≠ 0) (hg : Nat.Coprime x.natAbs d) (h : q * (d : Rat) = (x : Rat)) : q.num = x ∧ q.den = d := by
  have e : q = mkRat x d := by
    rw [Rat.mkRat_eq_div]
    have h2 : (d : Rat) ≠ 0 := fun h0 => hd (Rat.natCast_eq_zero_iff.1 h0)
    rw [← h]
    exact (Rat.mul_div_cancel h2).symm
  rw [e, Rat.num_mkRat, Rat.den_mkRat, if_neg hd, if_neg hd]
  have hg2 : d.gcd x.natAbs = 1 := by rw [Nat.gcd_comm]; exact hg
  rw [hg2]
  simp
theorem rat_low {q : Rat} {x d : Int} (hd : 0 < d) (hg : Int.gcd x d = 1) (h : q * (d : Rat) = (x : Rat)) : q.num = x ∧ (q.den : Int) = d := by
  have hn : (d.toNat : Int) = d := Int.toNat_of_nonneg (by omega)
  have h9 : ((d.toNat : Nat) : Rat) = (d : Rat) := by rw [← Rat.intCast_natCast, hn]
  have := rat_lowest (q := q) (x := x) (d := d.toNat) (by omega) (by have h1 : Nat.Coprime x.natAbs d.natAbs := hg; rwa [show d.natAbs = d.toNat by omega] at h1) (by rw [h9]; exact h)
  exact ⟨this.1, by rw [this.2, hn]⟩
/-- A point with rational coordinates whose x has a square for its denominator has whole coordinates over it. -/
theorem whole_y {A B : Int} {x y : Rat} {e : Int} (h : On (A : Rat) B x y) (he : (x.den : Int) = e * e) :
    ∃ Y : Int, y * ((e * e * e : Int) : Rat) = (Y : Rat) ∧ Y * Y = cvI A B x.num e := by
  have hx := rat_num_den x
  have hd : (x.den : Rat) = ((e * e : Int) : Rat) := by rw [← he, Rat.intCast_natCast]
  rw [hd] at hx
  have h2 : (y * ((e * e * e : Int) : Rat)) * (y * ((e * e * e : Int) : Rat)) = ((cvI A B x.num e : Int) : Rat) := by
    unfold cvI On at *
    simp only [Rat.intCast_mul, Rat.intCast_add] at hx ⊢
    generalize (x.num : Rat) = n at *
    grind
  obtain ⟨m, h3, h4⟩ := rat_sq_int h2
  exact ⟨m, h3, h4⟩
/-- Which numbers e may stand under a rational x: those with the square of e for its denominator. -/
theorem under_iff {q : Rat} {e X : Int} (he : 0 < e) (h1 : q * ((e * e : Int) : Rat) = (X : Rat)) (h2 : Int.gcd X e = 1) : q.num = X ∧ (q.den : Int) = e * e :=
  rat_low (Int.mul_pos he he) (by have := gcd_mul1 (a := e) (b := e) (E := X) (by rw [Int.gcd_comm]; exact h2) (by rw [Int.gcd_comm]; exact h2); rw [Int.gcd_comm]; exact this) h1
theorem under_of {q : Rat} {e : Int} (h : (q.den : Int) = e * e) : q * ((e * e : Int) : Rat) = (q.num : Rat) ∧ Int.gcd q.num e = 1 := by
  constructor
  · rw [← h, Rat.intCast_natCast]; exact rat_num_den q
  · have h1 := q.reduced
    have h5 : q.den = e.natAbs * e.natAbs := by
      have := Int.natAbs_mul e e
      omega
    rw [h5] at h1
    exact Nat.Coprime.coprime_mul_right_right h1
/-- The rational point of a point of the program. -/
def toQ (p : P3) : Option (Rat × Rat) := if p.2.2 = 0 then none else some ((p.1 : Rat) * ((p.2.2 : Rat)⁻¹ * (p.2.2 : Rat)⁻¹), (p.2.1 : Rat) * ((p.2.2 : Rat)⁻¹ * (p.2.2 : Rat)⁻¹ * (p.2.2 : Rat)⁻¹))
/-- The program's point of a rational one, if it is small enough. -/
def rep : Option (Rat × Rat) → Option P3
  | none => some (0, 0, 0)
  | some (x, y) => if rt x.den * rt x.den = x.den ∧ rt x.den ≤ 20 ∧ -10000 ≤ x.num ∧ x.num ≤ 10000 then some (x.num, (y * ((rt x.den * rt x.den * rt x.den : Int) : Rat)).num, rt x.den) else none
theorem rep_fin (x y : Rat) : rep (some (x, y)) = if rt x.den * rt x.den = x.den ∧ rt x.den ≤ 20 ∧ -10000 ≤ x.num ∧ x.num ≤ 10000 then some (x.num, (y * ((rt x.den * rt x.den * rt x.den : Int) : Rat)).num, rt x.den) else none := rfl
/-- A point of a curve, as the program means it. -/
def PV (A B : Int) (p : P3) : Prop := p = (0, 0, 0) ∨ (-10000 ≤ p.1 ∧ p.1 ≤ 10000 ∧ 1 ≤ p.2.2 ∧ p.2.2 ≤ 20 ∧ Int.gcd p.1 p.2.2 = 1 ∧ p.2.1 * p.2.1 = cvI A B p.1 p.2.2)
def sumO (A : Int) (p q : P3) : Option P3 := rep (add (A : Rat) (toQ p) (toQ q))
theorem inv_ok {E : Int} (h : E ≠ 0) : (E : Rat) * (E : Rat)⁻¹ = 1 := Rat.mul_inv_cancel _ (fun h0 => h (Rat.intCast_eq_zero_iff.1 h0))
theorem cvI_on {A B X Y E : Int} (h : Y * Y = cvI A B X E) : OnC A B X Y E := by unfold OnC; unfold cvI at h; grind
theorem PV.on {A B : Int} {p : P3} (h : PV A B p) : OnO (A : Rat) B (toQ p) := by
  unfold toQ
  split
  · trivial
  · rename_i h0
    rcases h with rfl | ⟨-, -, -, -, -, h5⟩
    · exact absurd rfl h0
    · exact onC_rat (cvI_on h5) (inv_ok h0)
/-- A representation, once found, is the one. -/
theorem rep_hit {A B : Int} {x y : Rat} {X e : Int} (hon : On (A : Rat) B x y) (e1 : 1 ≤ e) (e2 : e ≤ 20) (x1 : -10000 ≤ X) (x2 : X ≤ 10000) (hx : x * ((e * e : Int) : Rat) = (X : Rat)) (hg : Int.gcd X e = 1) :
    ∃ Y : Int, rep (some (x, y)) = some (X, Y, e) ∧ y * ((e * e * e : Int) : Rat) = (Y : Rat) ∧ Y * Y = cvI A B X e := by
  obtain ⟨h1, h2⟩ := under_iff (by omega) hx hg
  obtain ⟨Y, h3, h4⟩ := whole_y hon h2
  have hr : rt x.den = e := rt_sq (by omega) h2.symm
  refine ⟨Y, ?_, h3, by rw [← h1]; exact h4⟩
  rw [rep_fin, hr, if_pos ⟨h2.symm, e2, by omega, by omega⟩, h3, Rat.num_intCast, h1]
theorem rep_some {A B : Int} {x y : Rat} (hon : On (A : Rat) B x y) {X Y e : Int} (h : rep (some (x, y)) = some (X, Y, e)) :
    1 ≤ e ∧ e ≤ 20 ∧ -10000 ≤ X ∧ X ≤ 10000 ∧ x * ((e * e : Int) : Rat) = (X : Rat) ∧ Int.gcd X e = 1 ∧ y * ((e * e * e : Int) : Rat) = (Y : Rat) ∧ Y * Y = cvI A B X e := by
  rw [rep_fin] at h
  split at h
  · rename_i hc
    obtain ⟨c1, c2, c3, c4⟩ := hc
    have hp := x.den_pos
    have hrn := rt_nonneg x.den
    simp only [Option.some.injEq, Prod.mk.injEq] at h
    obtain ⟨h1, h2, h3⟩ := h
    rw [h3] at c1 c2 h2 hrn
    have he : 1 ≤ e := by
      rcases Int.lt_or_le 0 e with g | g
      · omega
      · have : e = 0 := by omega
        subst this; simp at c1; omega
    obtain ⟨u1, u2⟩ := under_of c1.symm
    obtain ⟨Y', k1, k2⟩ := whole_y hon c1.symm
    rw [k1, Rat.num_intCast] at h2
    subst h2; subst h1
    exact ⟨he, c2, c3, c4, u1, u2, k1, k2⟩
  · cases h
theorem toQ_fin {X Y E : Int} {x y : Rat} (hE : E ≠ 0) (hx : x * ((E * E : Int) : Rat) = (X : Rat)) (hy : y * ((E * E * E : Int) : Rat) = (Y : Rat)) : toQ (X, Y, E) = some (x, y) := by
  have hu := inv_ok hE
  unfold toQ
  rw [if_neg hE]
  simp only [Option.some.injEq, Prod.mk.injEq]
  rw [← hx, ← hy]
  simp only [Rat.intCast_mul]
  generalize (E : Rat)⁻¹ = u at *
  generalize (E : Rat) = e at *
  constructor <;> grind
theorem fin_toQ {X Y E : Int} (hE : E ≠ 0) : ∃ x y : Rat, toQ (X, Y, E) = some (x, y) ∧ x * ((E * E : Int) : Rat) = (X : Rat) ∧ y * ((E * E * E : Int) : Rat) = (Y : Rat) := by
  have hu := inv_ok hE
  refine ⟨_, _, by unfold toQ; rw [if_neg hE], ?_, ?_⟩
  · simp only [Rat.intCast_mul]
    generalize (E : Rat)⁻¹ = u at *
    generalize (E : Rat) = e at *
    generalize (X : Rat) = xx at *
    show xx * (u * u) * (e * e) = xx
    grind
  · simp only [Rat.intCast_mul]
    generalize (E : Rat)⁻¹ = u at *
    generalize (E : Rat) = e at *
    generalize (Y : Rat) = xx at *
    show xx * (u * u * u) * (e * e * e) = xx
    grind
theorem rep_toQ {A B : Int} {p : P3} (h : PV A B p) : rep (toQ p) = some p := by
  rcases h with rfl | ⟨h1, h2, h3, h4, h5, h6⟩
  · rfl
  · obtain ⟨X, Y, E⟩ := p
    simp only at *
    have hE : E ≠ 0 := by omega
    obtain ⟨x, y, hq, hx, hy⟩ := fin_toQ (X := X) (Y := Y) hE
    have hon := PV.on (A := A) (B := B) (p := (X, Y, E)) (.inr ⟨h1, h2, h3, h4, h5, h6⟩)
    rw [hq] at hon ⊢
    obtain ⟨Y', r1, r2, r3⟩ := rep_hit hon h3 h4 h1 h2 hx h5
    rw [r1]
    have : Y' = Y := Rat.intCast_inj.1 (by rw [← r2, hy])
    rw [this]
theorem rep_PV {A B : Int} {q : Option (Rat × Rat)} (hon : OnO (A : Rat) B q) {r : P3} (h : rep q = some r) : PV A B r ∧ toQ r = q := by
  rcases q with _ | ⟨x, y⟩
  · simp only [rep, Option.some.injEq] at h
    subst h
    exact ⟨.inl rfl, by unfold toQ; rw [if_pos rfl]⟩
  · obtain ⟨X, Y, e⟩ := r
    obtain ⟨h1, h2, h3, h4, h5, h6, h7, h8⟩ := rep_some hon h
    exact ⟨.inr ⟨h3, h4, h1, h2, h6, h8⟩, toQ_fin (by omega) h5 h7⟩
theorem sumO_PV {A B : Int} {p q r : P3} (hp : PV A B p) (hq : PV A B q) (h : sumO A p q = some r) : PV A B r ∧ toQ r = add (A : Rat) (toQ p) (toQ q) := rep_PV (add_on two_rat hp.on hq.on) h
/-! ### the sum by whole numbers -/
def sN (A : Int) (p q : P3) : Int := if p = q then 3 * p.1 * p.1 + A * p.2.2 * p.2.2 * p.2.2 * p.2.2 else q.2.1 * p.2.2 * p.2.2 * p.2.2 - p.2.1 * q.2.2 * q.2.2 * q.2.2
def sD (p q : P3) : Int := if p = q then 2 * p.2.1 * p.2.2 else p.2.2 * q.2.2 * (q.1 * p.2.2 * p.2.2 - p.1 * q.2.2 * q.2.2)
def opp (p : P3) : P3 := (p.1, -p.2.1, p.2.2)
theorem PV.fin {A B : Int} {p : P3} (h : PV A B p) (h0 : p.2.2 ≠ 0) : -10000 ≤ p.1 ∧ p.1 ≤ 10000 ∧ 1 ≤ p.2.2 ∧ p.2.2 ≤ 20 ∧ Int.gcd p.1 p.2.2 = 1 ∧ p.2.1 * p.2.1 = cvI A B p.1 p.2.2 := by
  rcases h with rfl | h
  · exact absurd rfl h0
  · exact h
theorem toQ_opp (p : P3) : toQ (opp p) = neg (toQ p) := by
  unfold toQ opp
  simp only
  split
  · rfl
  · simp only [neg, Option.some.injEq, Prod.mk.injEq, true_and, Rat.intCast_neg, Rat.neg_mul]
theorem opp_PV {A B : Int} {p : P3} (h : PV A B p) : PV A B (opp p) := by
  rcases h with rfl | ⟨h1, h2, h3, h4, h5, h6⟩
  · left; rfl
  · exact .inr ⟨h1, h2, h3, h4, h5, by show -p.2.1 * -p.2.1 = cvI A B p.1 p.2.2; rw [← h6]; grind⟩
theorem toQ_inj {A B : Int} {p q : P3} (hp : PV A B p) (hq : PV A B q) (h : toQ p = toQ q) : p = q := by
  have h1 := rep_toQ hp
  rw [h, rep_toQ hq] at h1
  exact (Option.some.inj h1).symm
theorem add_opp {A B : Int} {p q : P3} (hp : PV A B p) (hq : PV A B q) (h : p = opp q) : sumO A p q = some (0, 0, 0) := by
  unfold sumO
  have : toQ q = neg (toQ p) := by rw [h, toQ_opp, neg_neg]
  rw [this, add_neg_self two_rat hp.on]; rfl
theorem add_slope {A B : Int} {p q : P3} (hp : PV A B p) (hq : PV A B q) (p0 : p.2.2 ≠ 0) (q0 : q.2.2 ≠ 0) (hno : p ≠ opp q) :
    sD p q ≠ 0 ∧ ∃ x1 y1 x2 y2 : Rat, On (A : Rat) B x1 y1 ∧ On (A : Rat) B x2 y2 ∧ x1 * ((p.2.2 * p.2.2 : Int) : Rat) = (p.1 : Rat) ∧ y1 * ((p.2.2 * p.2.2 * p.2.2 : Int) : Rat) = (p.2.1 : Rat) ∧ x2 * ((q.2.2 * q.2.2 : Int) : Rat) = (q.1 : Rat) ∧ y2 * ((q.2.2 * q.2.2 * q.2.2 : Int) : Rat) = (q.2.1 : Rat) ∧
      ∀ l : Rat, l * (sD p q : Rat) = (sN A p q : Rat) → add (A : Rat) (toQ p) (toQ q) = some (l * l - x1 - x2, l * (x1 - (l * l - x1 - x2)) - y1) := by
  have on1 := hp.on; have on2 := hq.on
  have hqp : toQ p ≠ neg (toQ q) := by
    intro h0; rw [← toQ_opp] at h0
    exact hno (toQ_inj hp (opp_PV hq) h0)
  obtain ⟨x1, y1, e1, f1, g1⟩ := fin_toQ (X := p.1) (Y := p.2.1) p0
  obtain ⟨x2, y2, e2, f2, g2⟩ := fin_toQ (X := q.1) (Y := q.2.1) q0
  have ee1 : toQ p = some (x1, y1) := e1
  have ee2 : toQ q = some (x2, y2) := e2
  rw [ee1] at on1 hqp; rw [ee2] at on2 hqp
  have p0r : (p.2.2 : Rat) ≠ 0 := fun h0 => p0 (Rat.intCast_eq_zero_iff.1 h0)
  have q0r : (q.2.2 : Rat) ≠ 0 := fun h0 => q0 (Rat.intCast_eq_zero_iff.1 h0)
  have h2 : On (A : Rat) B x1 y1 := on1
  have h3 : On (A : Rat) B x2 y2 := on2
  by_cases hpq : p = q
  · subst hpq
    rw [ee1] at ee2
    simp only [Option.some.injEq, Prod.mk.injEq] at ee2
    obtain ⟨rfl, rfl⟩ := ee2
    have hy : y1 ≠ 0 := by rintro rfl; apply hqp; simp [neg]
    have hY : p.2.1 ≠ 0 := by
      intro h0; apply hy
      rw [h0] at g1
      simp only [Rat.intCast_mul] at g1
      generalize (p.2.2 : Rat) = e at *
      have : ((0 : Int) : Rat) = 0 := rfl
      rw [this] at g1
      grind
    have hsd : sD p p = 2 * p.2.1 * p.2.2 := by unfold sD; rw [if_pos rfl]
    have hsn : sN A p p = 3 * p.1 * p.1 + A * p.2.2 * p.2.2 * p.2.2 * p.2.2 := by unfold sN; rw [if_pos rfl]
    refine ⟨?_, x1, y1, x1, y1, h2, h2, f1, g1, f1, g1, ?_⟩
    · rw [hsd]; exact Int.mul_ne_zero (Int.mul_ne_zero (by decide) hY) p0
    · intro l hl
      rw [ee1]
      refine add_of_sum two_rat h2 h2 ⟨l, .inr ⟨rfl, rfl, hy, ?_⟩, rfl, rfl⟩
      rw [hsd, hsn] at hl
      simp only [Rat.intCast_mul, Rat.intCast_add] at hl f1 g1
      have t2 : ((2 : Int) : Rat) = 2 := rfl
      have t3 : ((3 : Int) : Rat) = 3 := rfl
      rw [t2, t3, ← f1, ← g1] at hl
      generalize (p.2.2 : Rat) = e at *
      generalize (A : Rat) = a at *
      have h4 : (l * (2 * y1)) * (e * e * e * e) = (3 * x1 * x1 + a) * (e * e * e * e) := by grind
      have h5 : e * e * e * e ≠ 0 := by grind
      exact canc h4.symm h5
  · have hx : x2 - x1 ≠ 0 := by
      intro h0
      have h4 : x2 = x1 := by grind
      subst h4
      have h5 : y2 = y1 := by
        have : (y2 - y1) * (y2 + y1) = 0 := by unfold On at h2 h3; grind
        by_cases h6 : y2 + y1 = 0
        · exfalso; apply hqp; simp only [neg, Option.some.injEq, Prod.mk.injEq, true_and]; grind
        · grind
      subst h5
      exact hpq (toQ_inj hp hq (by rw [ee1, ee2]))
    have hsd : sD p q = p.2.2 * q.2.2 * (q.1 * p.2.2 * p.2.2 - p.1 * q.2.2 * q.2.2) := by unfold sD; rw [if_neg hpq]
    have hsn : sN A p q = q.2.1 * p.2.2 * p.2.2 * p.2.2 - p.2.1 * q.2.2 * q.2.2 * q.2.2 := by unfold sN; rw [if_neg hpq]
    have hsr : (sD p q : Rat) = (x2 - x1) * ((p.2.2 : Rat) * p.2.2 * p.2.2 * (q.2.2 * q.2.2 * q.2.2)) := by
      rw [hsd]
      simp only [Rat.intCast_mul, Rat.intCast_sub] at f1 f2 ⊢
      rw [← f1, ← f2]
      generalize (p.2.2 : Rat) = e at *; generalize (q.2.2 : Rat) = f at *
      grind
    have hnz : (p.2.2 : Rat) * p.2.2 * p.2.2 * (q.2.2 * q.2.2 * q.2.2) ≠ 0 := by
      generalize (p.2.2 : Rat) = e at *; generalize (q.2.2 : Rat) = f at *
      grind
    refine ⟨?_, x1, y1, x2, y2, h2, h3, f1, g1, f2, g2, ?_⟩
    · intro h0
      rw [h0] at hsr
      have t0 : ((0 : Int) : Rat) = 0 := rfl
      rw [t0] at hsr
      generalize (p.2.2 : Rat) * p.2.2 * p.2.2 * (q.2.2 * q.2.2 * q.2.2) = T at *
      grind
    · intro l hl
      rw [ee1, ee2]
      refine add_of_sum two_rat h2 h3 ⟨l, .inl ⟨hx, ?_⟩, rfl, rfl⟩
      have hnr : (sN A p q : Rat) = (y2 - y1) * ((p.2.2 : Rat) * p.2.2 * p.2.2 * (q.2.2 * q.2.2 * q.2.2)) := by
        rw [hsn]
        simp only [Rat.intCast_mul, Rat.intCast_sub] at g1 g2 ⊢
        rw [← g1, ← g2]
        generalize (p.2.2 : Rat) = e at *; generalize (q.2.2 : Rat) = f at *
        grind
      rw [hsr, hnr] at hl
      generalize (p.2.2 : Rat) * p.2.2 * p.2.2 * (q.2.2 * q.2.2 * q.2.2) = T at *
      refine canc (T := T) ?_ hnz
      rw [← hl]; grind
theorem sq_int_le {n d : Int} (hd : 0 ≤ d) (h : n * n ≤ 30000 * (d * d)) : (n.natAbs : Int) ≤ 200 * d := by
  rcases Int.lt_or_le (200 * d) (n.natAbs : Int) with hlt | hle
  · exfalso
    have h1 : (n.natAbs : Int) * (n.natAbs : Int) = n * n := Int.natAbs_mul_self' n
    have h2 : (200 * d + 1) * (200 * d + 1) ≤ (n.natAbs : Int) * (n.natAbs : Int) := Int.mul_le_mul (by omega) (by omega) (by omega) (by omega)
    have h3 : (200 * d + 1) * (200 * d + 1) = 40000 * (d * d) + 400 * d + 1 := by grind
    have h4 : 0 ≤ d * d := Int.mul_nonneg hd hd
    omega
  · exact hle
theorem x_small {x : Rat} {X k : Int} (hk : 1 ≤ k) (hX : X ≤ 10000) (h : x * (k : Rat) = (X : Rat)) : x ≤ 10000 := by
  have hk0 : (0 : Rat) < (k : Rat) := by
    have : ((0 : Int) : Rat) < (k : Rat) := Rat.intCast_lt_intCast.2 (by omega)
    exact this
  rcases Classical.em (x ≤ 10000) with h1 | h1
  · exact h1
  · exfalso
    have h2 : (10000 : Rat) < x := Rat.not_le.1 h1
    have h3 := Rat.mul_lt_mul_of_pos_right h2 hk0
    rw [h] at h3
    have h4 : ((10000 * k : Int) : Rat) < (X : Rat) := by rw [Rat.intCast_mul]; exact h3
    have := Rat.intCast_lt_intCast.1 h4
    omega
theorem slope_small {l x1 x2 x3 : Rat} (h : l * l = x1 + x2 + x3) (h1 : x1 ≤ 10000) (h2 : x2 ≤ 10000) (h3 : x3 ≤ 10000) : (l.num.natAbs : Int) ≤ 200 * (l.den : Int) := by
  refine sq_int_le (by omega) ?_
  have hn := rat_num_den l
  have hd : (0 : Rat) ≤ (l.den : Rat) := Rat.natCast_nonneg
  have h4 : l * l ≤ 30000 := by rw [h]; grind
  have h5 : ((l.num * l.num : Int) : Rat) ≤ ((30000 * ((l.den : Int) * (l.den : Int)) : Int) : Rat) := by
    simp only [Rat.intCast_mul, Rat.intCast_natCast]
    rw [← hn]
    have h6 : 0 ≤ (l.den : Rat) * (l.den : Rat) := Rat.mul_nonneg hd hd
    have h7 := Rat.mul_le_mul_of_nonneg_right h4 h6
    have e : ((30000 : Int) : Rat) = 30000 := rfl
    grind
  exact Rat.intCast_le_intCast.1 h5
theorem den_le {l : Rat} {k : Int} (hk : 0 < k) {N : Int} (h : (l * (k : Rat)) * (l * (k : Rat)) = (N : Rat)) : (l.den : Int) ∣ k := by
  obtain ⟨m, h1, -⟩ := rat_sq_int h
  have hk2 : (k.toNat : Int) = k := Int.toNat_of_nonneg (by omega)
  have e : l = mkRat m k.toNat := by
    rw [Rat.mkRat_eq_div]
    have h9 : ((k.toNat : Nat) : Rat) = (k : Rat) := by rw [← Rat.intCast_natCast, hk2]
    have h8 : (k : Rat) ≠ 0 := fun h0 => by have := Rat.intCast_eq_zero_iff.1 h0; omega
    rw [h9, ← h1]
    exact (Rat.mul_div_cancel h8).symm
  have h2 : l.den ∣ k.toNat := by
    rw [e, Rat.den_mkRat]
    split
    · omega
    · exact Nat.div_dvd_of_dvd (Nat.gcd_dvd_left ..)
  rw [← hk2]
  exact Int.natCast_dvd_natCast.2 h2
theorem low_abs {l : Rat} {n m : Int} (hm : m ≠ 0) (hg : Int.gcd n m = 1) (h : l * (m : Rat) = (n : Rat)) : (l.den : Int) = m.natAbs ∧ l.num.natAbs = n.natAbs := by
  rcases Int.lt_or_le 0 m with g | g
  · have := rat_low g hg h
    constructor
    · rw [this.2]; omega
    · rw [this.1]
  · have h2 : l * ((-m : Int) : Rat) = ((-n : Int) : Rat) := by rw [Rat.intCast_neg, Rat.intCast_neg, ← h]; grind
    have := rat_low (q := l) (x := -n) (d := -m) (by omega) (by rw [Int.gcd_neg, Int.neg_gcd]; exact hg) h2
    constructor
    · rw [this.2]; omega
    · rw [this.1]; omega
def eeI (p q : P3) : Int := p.2.2 * p.2.2 * q.2.2 * q.2.2
def topI (p q : P3) (n m : Int) : Int := n * n * eeI p q - m * m * (p.1 * q.2.2 * q.2.2 + q.1 * p.2.2 * p.2.2)
def botI (p q : P3) (m : Int) : Int := m * m * eeI p q
def sideI (p : P3) (n m X e : Int) : Int := n * (p.1 * e * e - X * p.2.2 * p.2.2) * p.2.2 - p.2.1 * m * e * e
theorem sum_core {A B : Int} {p q : P3} (hp : PV A B p) (hq : PV A B q) (p0 : p.2.2 ≠ 0) (q0 : q.2.2 ≠ 0) (hno : p ≠ opp q) {n m d : Int} (hn : n * d = sN A p q) (hm : m * d = sD p q) :
    m ≠ 0 ∧ ∃ l x1 y1 x2 x3 : Rat, l * (m : Rat) = (n : Rat) ∧ x1 * ((p.2.2 * p.2.2 : Int) : Rat) = (p.1 : Rat) ∧ y1 * ((p.2.2 * p.2.2 * p.2.2 : Int) : Rat) = (p.2.1 : Rat) ∧ x2 * ((q.2.2 * q.2.2 : Int) : Rat) = (q.1 : Rat) ∧ l * l = x1 + x2 + x3 ∧
      On (A : Rat) B x3 (l * (x1 - x3) - y1) ∧ sumO A p q = rep (some (x3, l * (x1 - x3) - y1)) ∧ x3 * (botI p q m : Rat) = (topI p q n m : Rat) := by
  obtain ⟨h0, x1, y1, x2, y2, h1, h2, f1, g1, f2, g2, hadd⟩ := add_slope hp hq p0 q0 hno
  have hm0 : m ≠ 0 := by rintro rfl; rw [Int.zero_mul] at hm; exact h0 hm.symm
  have hd0 : d ≠ 0 := by rintro rfl; rw [Int.mul_zero] at hm; exact h0 hm.symm
  have hmr : (m : Rat) ≠ 0 := fun h => hm0 (Rat.intCast_eq_zero_iff.1 h)
  have hl : ((n : Rat) / m) * m = n := ndiv hmr
  have hls : ((n : Rat) / m) * (sD p q : Rat) = (sN A p q : Rat) := by
    rw [← hn, ← hm, Rat.intCast_mul, Rat.intCast_mul, ← Rat.mul_assoc, hl]
  have ha := hadd _ hls
  generalize (n : Rat) / m = l at *
  have hon := add_on two_rat hp.on hq.on
  rw [ha] at hon
  refine ⟨hm0, l, x1, y1, x2, l * l - x1 - x2, hl, f1, g1, f2, by grind, hon, by unfold sumO; rw [ha], ?_⟩
  unfold botI topI eeI
  simp only [Rat.intCast_mul, Rat.intCast_add, Rat.intCast_sub] at f1 f2 ⊢
  rw [← hl, ← f1, ← f2]
  generalize (p.2.2 : Rat) = e at *; generalize (q.2.2 : Rat) = f at *; generalize (m : Rat) = mm at *
  grind
theorem bot_pos {A B : Int} {p q : P3} (hp : PV A B p) (hq : PV A B q) (p0 : p.2.2 ≠ 0) (q0 : q.2.2 ≠ 0) {m : Int} (hm : m ≠ 0) : 0 < botI p q m := by
  obtain ⟨-, -, a1, a2, -⟩ := hp.fin p0
  obtain ⟨-, -, b1, b2, -⟩ := hq.fin q0
  unfold botI eeI
  have h1 : 0 < m * m := by
    rcases Int.lt_or_lt_of_ne hm with g | g
    · exact Int.mul_pos_of_neg_of_neg g g
    · exact Int.mul_pos g g
  exact Int.mul_pos h1 (Int.mul_pos (Int.mul_pos (Int.mul_pos (by omega) (by omega)) (by omega)) (by omega))
theorem sum_hit {A B : Int} {p q : P3} (hp : PV A B p) (hq : PV A B q) (p0 : p.2.2 ≠ 0) (q0 : q.2.2 ≠ 0) (hno : p ≠ opp q) {n m d : Int} (hn : n * d = sN A p q) (hm : m * d = sD p q)
    {e X : Int} (e1 : 1 ≤ e) (e2 : e ≤ 20) (x1 : -10000 ≤ X) (x2 : X ≤ 10000) (hx : botI p q m * X = topI p q n m * (e * e)) (hg : Int.gcd X e = 1) :
    ∃ Y : Int, sumO A p q = some (X, Y, e) ∧ Y * Y = cvI A B X e ∧ Y * (m * (p.2.2 * p.2.2 * p.2.2)) = e * sideI p n m X e := by
  obtain ⟨hm0, l, a1, b1, a2, a3, hl, f1, g1, f2, hll, hon, hs, hb⟩ := sum_core hp hq p0 q0 hno hn hm
  have hbp := bot_pos hp hq p0 q0 hm0
  have hbr : (botI p q m : Rat) ≠ 0 := fun h => by have := Rat.intCast_eq_zero_iff.1 h; omega
  have hx3 : a3 * ((e * e : Int) : Rat) = (X : Rat) := by
    have h1 : (botI p q m : Rat) * X = topI p q n m * ((e * e : Int) : Rat) := by
      rw [← Rat.intCast_mul, ← Rat.intCast_mul, hx]
    rw [← hb] at h1
    generalize ((e * e : Int) : Rat) = ee at *
    generalize (botI p q m : Rat) = D at *
    exact canc (T := D) (by rw [Rat.mul_comm (X : Rat)]; rw [h1]; grind) hbr
  obtain ⟨Y, r1, r2, r3⟩ := rep_hit hon e1 e2 x1 x2 hx3 hg
  refine ⟨Y, by rw [hs]; exact r1, r3, ?_⟩
  refine Rat.intCast_inj.1 ?_
  unfold sideI
  simp only [Rat.intCast_mul, Rat.intCast_sub] at *
  rw [← r2, ← hl, ← f1, ← g1, ← hx3]
  generalize (p.2.2 : Rat) = e1 at *; generalize (e : Rat) = f at *; generalize (m : Rat) = mm at *
  grind
theorem sum_miss {A B : Int} {p q : P3} (hp : PV A B p) (hq : PV A B q) (p0 : p.2.2 ≠ 0) (q0 : q.2.2 ≠ 0) (hno : p ≠ opp q) {n m d : Int} (hn : n * d = sN A p q) (hm : m * d = sD p q)
    {X Y e : Int} (h : sumO A p q = some (X, Y, e)) : 1 ≤ e ∧ e ≤ 20 ∧ -10000 ≤ X ∧ X ≤ 10000 ∧ botI p q m * X = topI p q n m * (e * e) ∧ Int.gcd X e = 1 := by
  obtain ⟨hm0, l, a1, b1, a2, a3, hl, f1, g1, f2, hll, hon, hs, hb⟩ := sum_core hp hq p0 q0 hno hn hm
  rw [hs] at h
  obtain ⟨r1, r2, r3, r4, r5, r6, r7, r8⟩ := rep_some hon h
  refine ⟨r1, r2, r3, r4, ?_, r6⟩
  refine Rat.intCast_inj.1 ?_
  rw [Rat.intCast_mul, Rat.intCast_mul, ← hb, ← r5]
  grind
/-- The slope of a sum that is a point is small. -/
theorem sum_slope {A B : Int} {p q : P3} (hp : PV A B p) (hq : PV A B q) (p0 : p.2.2 ≠ 0) (q0 : q.2.2 ≠ 0) (hno : p ≠ opp q) {n m d : Int} (hn : n * d = sN A p q) (hm : m * d = sD p q) (hg : Int.gcd n m = 1)
    {r : P3} (h : sumO A p q = some r) : m.natAbs ≤ 8000 ∧ n.natAbs ≤ 200 * m.natAbs := by
  obtain ⟨hm0, l, a1, b1, a2, a3, hl, f1, g1, f2, hll, hon, hs, hb⟩ := sum_core hp hq p0 q0 hno hn hm
  obtain ⟨X, Y, e⟩ := r
  rw [hs] at h
  obtain ⟨r1, r2, r3, r4, r5, r6, r7, r8⟩ := rep_some hon h
  obtain ⟨p1, p2, p3, p4, -⟩ := hp.fin p0
  obtain ⟨q1, q2, q3, q4, -⟩ := hq.fin q0
  obtain ⟨d1, d2⟩ := low_abs hm0 hg hl
  have h1 := slope_small hll (x_small (Int.mul_pos (by omega) (by omega)) p2 f1) (x_small (Int.mul_pos (by omega) (by omega)) q2 f2) (x_small (Int.mul_pos (by omega) (by omega)) r4 r5)
  have hpos : 0 < p.2.2 * q.2.2 * e := Int.mul_pos (Int.mul_pos (by omega) (by omega)) (by omega)
  have h2 : (l.den : Int) ∣ p.2.2 * q.2.2 * e := by
    refine den_le hpos (N := p.1 * (q.2.2 * q.2.2) * (e * e) + q.1 * (p.2.2 * p.2.2) * (e * e) + X * (p.2.2 * p.2.2) * (q.2.2 * q.2.2)) ?_
    have : (l * ((p.2.2 * q.2.2 * e : Int) : Rat)) * (l * ((p.2.2 * q.2.2 * e : Int) : Rat)) = (l * l) * (((p.2.2 * q.2.2 * e : Int) : Rat) * ((p.2.2 * q.2.2 * e : Int) : Rat)) := by grind
    rw [this, hll]
    simp only [Rat.intCast_mul, Rat.intCast_add] at *
    rw [← f1, ← f2, ← r5]
    generalize (p.2.2 : Rat) = e1 at *; generalize (q.2.2 : Rat) = e2 at *; generalize (e : Rat) = f at *
    grind
  have h3 := Int.le_of_dvd hpos h2
  have h4 : p.2.2 * q.2.2 * e ≤ 8000 := by
    have t1 : p.2.2 * q.2.2 ≤ 20 * 20 := Int.mul_le_mul (by omega) (by omega) (by omega) (by omega)
    have t2 : p.2.2 * q.2.2 * e ≤ (20 * 20) * 20 := Int.mul_le_mul t1 (by omega) (by omega) (by omega)
    omega
  omega
end Go.Proofs.Ytngnnkbgiligaaa.EC
