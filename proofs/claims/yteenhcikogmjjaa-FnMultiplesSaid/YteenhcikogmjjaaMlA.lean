import Derived.Test.YteenhcikogmjjaaPtV
import Derived.Test.YteenhcikogmjjaaRegX
set_option linter.unusedSimpArgs false
set_option linter.unusedVariables false
namespace Go.Proofs.Yteenhcikogmjjaa
open Go.RowKit
/-! ### no point of a curve of the program's size has the order 11 -/

namespace N11
def disc (a b c : Int) : Int := a*a*b*b - 4*b*b*b - 4*a*a*a*c - 27*c*c + 18*a*b*c
structure Prm (p : Int) : Prop where
  mul : ∀ a b : Int, p ∣ a * b → p ∣ a ∨ p ∣ b
  two : ¬ p ∣ 2
  ne : p ≠ 0
theorem Prm.sq {p a : Int} (h : Prm p) (ha : p ∣ a * a) : p ∣ a := (h.mul _ _ ha).elim id id
theorem Prm.dbl {p a : Int} (h : Prm p) (ha : p ∣ 2 * a) : p ∣ a := (h.mul _ _ ha).resolve_left h.two
theorem Prm.both {p a b : Int} (h : Prm p) (h1 : p ∣ a - b) (h2 : p ∣ a + b) : p ∣ a := h.dbl (by
  obtain ⟨j, hj⟩ := h1; obtain ⟨k, hk⟩ := h2; exact ⟨j + k, by grind⟩)
theorem Prm.canc {p a b : Int} (h : Prm p) (e : p * a = p * b) : a = b := Int.eq_of_mul_eq_mul_left h.ne e
structure Fam (a2 a4 a6 : Int) (x y : Nat → Int) : Prop where
  on : ∀ i, 1 ≤ i → i ≤ 10 → y i * y i = x i * x i * x i + a2 * x i * x i + a4 * x i + a6
  opx : ∀ i, 1 ≤ i → i ≤ 10 → x (11 - i) = x i
  opy : ∀ i, 1 ≤ i → i ≤ 10 → y (11 - i) = - y i
  chord : ∀ i j, 1 ≤ i → i ≤ 10 → 1 ≤ j → j ≤ 10 → i ≠ j → i + j ≠ 11 → ∃ l, y i - y j = l * (x i - x j) ∧ l * l = a2 + x i + x j + x ((i + j) % 11)
  tang : ∀ i, 1 ≤ i → i ≤ 10 → ∃ l, 2 * y i * l = 3 * x i * x i + 2 * a2 * x i + a4 ∧ l * l = a2 + 2 * x i + x ((i + i) % 11)
/-- Shifted to s: f(s), f'(s), f''(s)/2. -/
def F0 (a2 a4 a6 s : Int) : Int := s*s*s + a2*s*s + a4*s + a6
def F1 (a2 a4 s : Int) : Int := 3*s*s + 2*a2*s + a4
def F2 (a2 s : Int) : Int := a2 + 3*s
theorem disc_shift (a2 a4 a6 s : Int) : disc (F2 a2 s) (F1 a2 a4 s) (F0 a2 a4 a6 s) = disc a2 a4 a6 := by unfold disc F0 F1 F2; grind
theorem Fam.shift {a2 a4 a6 : Int} {x y : Nat → Int} (h : Fam a2 a4 a6 x y) (s : Int) : Fam (F2 a2 s) (F1 a2 a4 s) (F0 a2 a4 a6 s) (fun i => x i - s) y := by
  refine ⟨fun i h1 h2 => ?_, fun i h1 h2 => ?_, h.opy, fun i j h1 h2 h3 h4 h5 h6 => ?_, fun i h1 h2 => ?_⟩
  · have := h.on i h1 h2; unfold F0 F1 F2; grind
  · show x (11 - i) - s = x i - s; rw [h.opx i h1 h2]
  · obtain ⟨l, e1, e2⟩ := h.chord i j h1 h2 h3 h4 h5 h6
    exact ⟨l, by rw [e1]; grind, by rw [e2]; unfold F2; grind⟩
  · obtain ⟨l, e1, e2⟩ := h.tang i h1 h2
    exact ⟨l, by rw [e1]; unfold F1 F2; grind, by rw [e2]; unfold F2; grind⟩
section
variable {p a2 a4 a6 : Int} {x y : Nat → Int}
/-- The difference of two first coordinates divides both second ones, twice. -/
theorem Fam.dvd_y (hp : Prm p) (h : Fam a2 a4 a6 x y) {i j : Nat} (h1 : 1 ≤ i) (h2 : i ≤ 10) (h3 : 1 ≤ j) (h4 : j ≤ 10) (h5 : i ≠ j) (h6 : i + j ≠ 11) (hd : p ∣ x i - x j) : p ∣ y i := by
  obtain ⟨l, e1, -⟩ := h.chord i j h1 h2 h3 h4 h5 h6
  obtain ⟨m, e2, -⟩ := h.chord i (11 - j) h1 h2 (by omega) (by omega) (by omega) (by omega)
  rw [h.opx j h3 h4, h.opy j h3 h4] at e2
  obtain ⟨k, hk⟩ := hd
  rw [hk] at e1 e2
  exact hp.both ⟨l * k, by rw [e1]; grind⟩ ⟨m * k, by grind⟩
theorem dbl_ns {c0 c1 al u v y l : Int} (hp : Prm p) (hc0 : p ∣ c0) (hc1 : p ∣ c1) (hon : y * y = u*u*u + al*u*u + c1*u + c0) (ht : 2*y*l = 3*u*u + 2*al*u + c1) (hl : l*l = al + 2*u + v) (hv : p ∣ v) : p ∣ y := by
  obtain ⟨k0, rfl⟩ := hc0; obtain ⟨k1, rfl⟩ := hc1; obtain ⟨k2, rfl⟩ := hv
  have e : (2*y*l)*(2*y*l) = 4*(y*y)*(l*l) := by grind
  rw [ht, hl, hon] at e
  have h4 : p ∣ (u*u)*(u*u) := ⟨4*u*u*(al+u)*k2 + 4*(k0+k1*u)*(al+2*u+p*k2) - k1*(p*k1) - 2*k1*(2*al*u+3*u*u), by grind⟩
  have hu := hp.sq (hp.sq h4)
  obtain ⟨k, rfl⟩ := hu
  exact hp.sq ⟨k*(p*k)*(p*k) + al*k*(p*k) + p*k1*k + k0, by rw [hon]; grind⟩
theorem sing_u {c0 c1 al u y l : Int} (hp : Prm p) (hc0 : p ∣ c0) (hc1 : p ∣ c1) (hon : y * y = u*u*u + al*u*u + c1*u + c0) (ht : 2*y*l = 3*u*u + 2*al*u + c1) (hy : p ∣ y) : p ∣ u := by
  obtain ⟨k0, rfl⟩ := hc0; obtain ⟨k1, rfl⟩ := hc1; obtain ⟨k2, rfl⟩ := hy
  have h1 : p ∣ (u*u)*(u+al) := ⟨k2*p*k2 - k1*u - k0, by grind⟩
  have h2 : p ∣ u*(3*u+2*al) := ⟨2*k2*l - k1, by grind⟩
  rcases hp.mul _ _ h1 with h1 | h1
  · exact hp.sq h1
  rcases hp.mul _ _ h2 with h2 | h2
  · exact h2
  obtain ⟨j, hj⟩ := h1; obtain ⟨k, hk⟩ := h2
  exact ⟨k - 2*j, by grind⟩
theorem all_of {P1 P2 P3 P4 P5 P6 P7 P8 P9 P10 : Prop} (h : P1 ∨ P2 ∨ P3 ∨ P4 ∨ P5 ∨ P6 ∨ P7 ∨ P8 ∨ P9 ∨ P10) (c1 : P2 → P1) (c2 : P4 → P2) (c3 : P6 → P3) (c4 : P8 → P4) (c5 : P10 → P5) (c6 : P1 → P6) (c7 : P3 → P7) (c8 : P5 → P8) (c9 : P7 → P9) (c10 : P9 → P10) :
    P1 ∧ P2 ∧ P3 ∧ P4 ∧ P5 ∧ P6 ∧ P7 ∧ P8 ∧ P9 ∧ P10 := by grind
/-- One second coordinate is divisible: all are, and all first ones agree. -/
theorem Fam.allY (hp : Prm p) (h : Fam a2 a4 a6 x y) {i : Nat} (h1 : 1 ≤ i) (h2 : i ≤ 10) (hy : p ∣ y i) : ∀ j, 1 ≤ j → j ≤ 10 → p ∣ y j := by
  have hs := h.shift (x i)
  have e0 : p ∣ F0 a2 a4 a6 (x i) := by
    have := h.on i h1 h2
    obtain ⟨k, hk⟩ := hy
    exact ⟨k * (p * k), by unfold F0; grind⟩
  have e1 : p ∣ F1 a2 a4 (x i) := by
    obtain ⟨l, hl, -⟩ := h.tang i h1 h2
    obtain ⟨k, hk⟩ := hy
    exact ⟨2 * k * l, by unfold F1; grind⟩
  have step : ∀ j, 1 ≤ j → j ≤ 10 → p ∣ y ((j + j) % 11) → p ∣ y j := by
    intro j h3 h4 h5
    obtain ⟨l, hl, hl2⟩ := hs.tang j h3 h4
    obtain ⟨m, hm, -⟩ := hs.tang ((j + j) % 11) (by omega) (by omega)
    have h6 := sing_u hp e0 e1 (hs.on ((j + j) % 11) (by omega) (by omega)) hm h5
    exact dbl_ns hp e0 e1 (hs.on j h3 h4) hl hl2 h6
  have c1 := step 1 (by omega) (by omega); have c2 := step 2 (by omega) (by omega); have c3 := step 3 (by omega) (by omega); have c4 := step 4 (by omega) (by omega); have c5 := step 5 (by omega) (by omega)
  have c6 := step 6 (by omega) (by omega); have c7 := step 7 (by omega) (by omega); have c8 := step 8 (by omega) (by omega); have c9 := step 9 (by omega) (by omega); have c10 := step 10 (by omega) (by omega)
  simp only [Nat.reduceAdd, Nat.reduceMod] at c1 c2 c3 c4 c5 c6 c7 c8 c9 c10
  have hi : i = 1 ∨ i = 2 ∨ i = 3 ∨ i = 4 ∨ i = 5 ∨ i = 6 ∨ i = 7 ∨ i = 8 ∨ i = 9 ∨ i = 10 := by omega
  have all : p ∣ y 1 ∧ p ∣ y 2 ∧ p ∣ y 3 ∧ p ∣ y 4 ∧ p ∣ y 5 ∧ p ∣ y 6 ∧ p ∣ y 7 ∧ p ∣ y 8 ∧ p ∣ y 9 ∧ p ∣ y 10 := by
    clear hs e0 e1 step h
    exact all_of (by rcases hi with rfl | rfl | rfl | rfl | rfl | rfl | rfl | rfl | rfl | rfl <;> simp [hy]) c1 c2 c3 c4 c5 c6 c7 c8 c9 c10
  intro j h3 h4
  obtain ⟨d1, d2, d3, d4, d5, d6, d7, d8, d9, d10⟩ := all
  have hj : j = 1 ∨ j = 2 ∨ j = 3 ∨ j = 4 ∨ j = 5 ∨ j = 6 ∨ j = 7 ∨ j = 8 ∨ j = 9 ∨ j = 10 := by omega
  rcases hj with rfl | rfl | rfl | rfl | rfl | rfl | rfl | rfl | rfl | rfl <;> assumption
/-- Seen from one of its points: f(s) and f'(s) are divisible, twice and once, and all first coordinates agree. -/
theorem Fam.near (hp : Prm p) (h : Fam a2 a4 a6 x y) (hall : ∀ j, 1 ≤ j → j ≤ 10 → p ∣ y j) {i : Nat} (h1 : 1 ≤ i) (h2 : i ≤ 10) :
    F0 a2 a4 a6 (x i) = y i * y i ∧ p ∣ F1 a2 a4 (x i) ∧ ∀ j, 1 ≤ j → j ≤ 10 → p ∣ x j - x i := by
  have hs := h.shift (x i)
  have e : F0 a2 a4 a6 (x i) = y i * y i := by rw [h.on i h1 h2]; unfold F0; grind
  have e1 : p ∣ F1 a2 a4 (x i) := by
    obtain ⟨l, hl, -⟩ := h.tang i h1 h2
    obtain ⟨k, hk⟩ := hall i h1 h2
    exact ⟨2 * k * l, by unfold F1; grind⟩
  refine ⟨e, e1, fun j h3 h4 => ?_⟩
  obtain ⟨l, hl, -⟩ := hs.tang j h3 h4
  have e0 : p ∣ F0 a2 a4 a6 (x i) := by rw [e]; obtain ⟨k, hk⟩ := hall i h1 h2; exact ⟨k * y i, by rw [hk]; grind⟩
  exact sing_u hp e0 e1 (hs.on j h3 h4) hl (hall j h3 h4)
/-- A tangent or chord at a point deep down: the fourth power of p divides the discriminant. -/
theorem disc_deep {al b1 b0 : Int} (h1 : p * p ∣ b1) (h0 : p * p * p * p ∣ b0) : p * p * p * p ∣ disc al b1 b0 := by
  obtain ⟨j, rfl⟩ := h1; obtain ⟨k, rfl⟩ := h0
  exact ⟨al*al*j*j - 4*p*p*j*j*j - 4*al*al*al*k - 27*p*p*p*p*k*k + 18*al*p*p*j*k, by unfold disc; grind⟩
theorem Fam.deep (_hp : Prm p) (h : Fam a2 a4 a6 x y) {i : Nat} (h1 : 1 ≤ i) (h2 : i ≤ 10) (hy : p * p ∣ y i) : p * p * p * p ∣ disc a2 a4 a6 := by
  rw [← disc_shift a2 a4 a6 (x i)]
  refine disc_deep ?_ ?_
  · obtain ⟨l, hl, -⟩ := h.tang i h1 h2
    obtain ⟨k, hk⟩ := hy
    exact ⟨2 * k * l, by unfold F1; grind⟩
  · obtain ⟨k, hk⟩ := hy
    exact ⟨k * k, by have := h.on i h1 h2; unfold F0; grind⟩
/-- All points singular, and two of them closer than p: the discriminant has the fourth power of p. -/
theorem Fam.close (hp : Prm p) (h : Fam a2 a4 a6 x y) {i j : Nat} (h1 : 1 ≤ i) (h2 : i ≤ 10) (h3 : 1 ≤ j) (h4 : j ≤ 10) (h5 : i ≠ j) (h6 : i + j ≠ 11) (hd : p * p ∣ x i - x j) : p * p * p * p ∣ disc a2 a4 a6 := by
  refine h.deep hp h1 h2 ?_
  obtain ⟨l, e1, -⟩ := h.chord i j h1 h2 h3 h4 h5 h6
  obtain ⟨m, e2, -⟩ := h.chord i (11 - j) h1 h2 (by omega) (by omega) (by omega) (by omega)
  rw [h.opx j h3 h4, h.opy j h3 h4] at e2
  obtain ⟨k, hk⟩ := hd
  rw [hk] at e1 e2
  have h2y : 2 * y i = p * (p * (k * (l + m))) := by grind
  obtain ⟨t, ht⟩ := hp.dbl ⟨_, h2y⟩
  rw [ht] at h2y
  have h3 := hp.canc (show p * (2 * t) = p * (p * (k * (l + m))) by grind)
  obtain ⟨r, hr⟩ := hp.dbl ⟨_, h3⟩
  exact ⟨r, by rw [ht, hr]; grind⟩
/-- A cusp: the model is not the least one. -/
theorem Fam.cusp (hp : Prm p) (h : Fam a2 a4 a6 x y) (hall : ∀ j, 1 ≤ j → j ≤ 10 → p ∣ y j) (hc : p ∣ F2 a2 (x 1)) :
    ∃ b2 b4 b6 u v, Fam b2 b4 b6 u v ∧ disc a2 a4 a6 = p*p*p*p*p*p*p*p*p*p*p*p * disc b2 b4 b6 := by
  obtain ⟨e0, e1, hx⟩ := h.near hp hall (show 1 ≤ 1 by omega) (by omega)
  have hs := h.shift (x 1)
  rw [← disc_shift a2 a4 a6 (x 1)]
  generalize F0 a2 a4 a6 (x 1) = c0 at *
  generalize F1 a2 a4 (x 1) = c1 at *
  generalize F2 a2 (x 1) = al at *
  have hx1 : (fun i => x i - x 1) 1 = 0 := by simp
  replace hx : ∀ j, 1 ≤ j → j ≤ 10 → p ∣ (fun i => x i - x 1) j := hx
  clear h
  generalize (fun i => x i - x 1) = X at *
  clear e0
  -- slopes are divisible
  obtain ⟨a, rfl⟩ := hc
  have sl : ∀ i j, 1 ≤ i → i ≤ 10 → 1 ≤ j → j ≤ 10 → i ≠ j → i + j ≠ 11 → ∃ m, y i - y j = p * m * (X i - X j) ∧ p * (p * (m * m)) = p * a + X i + X j + X ((i + j) % 11) := by
    intro i j h1 h2 h3 h4 h5 h6
    obtain ⟨l, e1, e2⟩ := hs.chord i j h1 h2 h3 h4 h5 h6
    obtain ⟨t1, q1⟩ := hx i h1 h2; obtain ⟨t2, q2⟩ := hx j h3 h4; obtain ⟨t3, q3⟩ := hx ((i + j) % 11) (by omega) (by omega)
    obtain ⟨m, rfl⟩ := hp.sq ⟨a + t1 + t2 + t3, by rw [e2, q1, q2, q3]; grind⟩
    exact ⟨m, e1, by rw [← e2]; grind⟩
  -- the third points agree
  have ag : ∀ i j k l, 1 ≤ i → i ≤ 10 → 1 ≤ j → j ≤ 10 → i ≠ j → i + j ≠ 11 → (i + j) % 11 = k → (i + (11 - j)) % 11 = l → p * p ∣ X k - X l := by
    intro i j k l h1 h2 h3 h4 h5 h6 hk hl
    obtain ⟨m, -, e1⟩ := sl i j h1 h2 h3 h4 h5 h6
    obtain ⟨n, -, e2⟩ := sl i (11 - j) h1 h2 (by omega) (by omega) (by omega) (by omega)
    rw [hs.opx j h3 h4] at e2
    rw [hk] at e1; rw [hl] at e2
    exact ⟨m * m - n * n, by grind⟩
  have tr : ∀ a b c, p * p ∣ X a - X b → p * p ∣ X b - X c → p * p ∣ X a - X c := by
    intro a b c ⟨m, h1⟩ ⟨n, h2⟩; exact ⟨m + n, by grind⟩
  have sy : ∀ a b, p * p ∣ X a - X b → p * p ∣ X b - X a := by
    intro a b ⟨m, h1⟩; exact ⟨-m, by grind⟩
  have op : ∀ i, 1 ≤ i → i ≤ 10 → X (11 - i) = X i := hs.opx
  have g31 : p * p ∣ X 3 - X 10 := ag 1 2 3 10 (by omega) (by omega) (by omega) (by omega) (by omega) (by omega) (by omega) (by omega)
  have g42 : p * p ∣ X 4 - X 9 := ag 1 3 4 9 (by omega) (by omega) (by omega) (by omega) (by omega) (by omega) (by omega) (by omega)
  have g53 : p * p ∣ X 5 - X 8 := ag 1 4 5 8 (by omega) (by omega) (by omega) (by omega) (by omega) (by omega) (by omega) (by omega)
  have g54 : p * p ∣ X 6 - X 7 := ag 1 5 6 7 (by omega) (by omega) (by omega) (by omega) (by omega) (by omega) (by omega) (by omega)
  have o1 := op 1 (by omega) (by omega); have o2 := op 2 (by omega) (by omega); have o3 := op 3 (by omega) (by omega); have o4 := op 4 (by omega) (by omega); have o5 := op 5 (by omega) (by omega)
  simp only [Nat.reduceSub] at o1 o2 o3 o4 o5
  rw [o1] at g31; rw [o2] at g42; rw [o3] at g53; rw [o4, o5] at g54
  have d3 : p * p ∣ X 3 - X 1 := g31
  have d5 := tr 5 3 1 g53 d3
  have d4 := tr 4 5 1 (sy 5 4 g54) d5
  have d2 := tr 2 4 1 (sy 4 2 g42) d4
  have dv : ∀ i, 1 ≤ i → i ≤ 10 → p * p ∣ X i := by
    intro i h1 h2
    have hi : i = 1 ∨ i = 2 ∨ i = 3 ∨ i = 4 ∨ i = 5 ∨ i = 6 ∨ i = 7 ∨ i = 8 ∨ i = 9 ∨ i = 10 := by omega
    rw [hx1] at d2 d3 d4 d5
    simp only [Int.sub_zero] at d2 d3 d4 d5
    rcases hi with rfl | rfl | rfl | rfl | rfl | rfl | rfl | rfl | rfl | rfl
    · rw [hx1]; exact ⟨0, by simp⟩
    all_goals first | assumption | (rw [o5]; assumption) | (rw [o4]; assumption) | (rw [o3]; assumption) | (rw [o2]; assumption) | (rw [o1, hx1]; exact ⟨0, by simp⟩)
  -- pick the quotients
  have ha : p ∣ a := by
    obtain ⟨m, -, e1⟩ := sl 1 2 (by omega) (by omega) (by omega) (by omega) (by omega) (by omega)
    obtain ⟨t1, q1⟩ := dv 1 (by omega) (by omega); obtain ⟨t2, q2⟩ := dv 2 (by omega) (by omega); obtain ⟨t3, q3⟩ := dv 3 (by omega) (by omega)
    simp only [Nat.reduceAdd, Nat.reduceMod] at e1
    exact ⟨m * m - t1 - t2 - t3, hp.canc (by rw [q1, q2, q3] at e1; grind)⟩
  obtain ⟨b2, rfl⟩ := ha
  have hyy : ∀ i, 1 ≤ i → i ≤ 10 → p * p * p ∣ y i := by
    intro i h1 h2
    obtain ⟨j, h3, h4, h5, h6⟩ : ∃ j, 1 ≤ j ∧ j ≤ 10 ∧ i ≠ j ∧ i + j ≠ 11 := by
      by_cases g : i = 1 ∨ i = 10
      · exact ⟨2, by omega, by omega, by omega, by omega⟩
      · exact ⟨1, by omega, by omega, by omega, by omega⟩
    obtain ⟨m, e1, -⟩ := sl i j h1 h2 h3 h4 h5 h6
    obtain ⟨n, e2, -⟩ := sl i (11 - j) h1 h2 (by omega) (by omega) (by omega) (by omega)
    rw [hs.opx j h3 h4, hs.opy j h3 h4] at e2
    obtain ⟨t1, q1⟩ := dv i h1 h2; obtain ⟨t2, q2⟩ := dv j h3 h4
    rw [q1, q2] at e1 e2
    have h2y : 2 * y i = p * (p * (p * ((t1 - t2) * (m + n)))) := by grind
    obtain ⟨r1, k1⟩ := hp.dbl ⟨_, h2y⟩
    have h3y := hp.canc (show p * (2 * r1) = p * (p * (p * ((t1 - t2) * (m + n)))) by rw [← h2y, k1]; grind)
    obtain ⟨r2, k2⟩ := hp.dbl ⟨_, h3y⟩
    have h4y := hp.canc (show p * (2 * r2) = p * (p * ((t1 - t2) * (m + n))) by rw [← h3y, k2]; grind)
    obtain ⟨r3, k3⟩ := hp.dbl ⟨_, h4y⟩
    exact ⟨r3, by rw [k1, k2, k3]; grind⟩
  have hw : ∀ i, ∃ w q, 1 ≤ i → i ≤ 10 → X i = p * p * w ∧ y i = p * p * p * q := by
    intro i
    by_cases g : 1 ≤ i ∧ i ≤ 10
    · obtain ⟨w, h1⟩ := dv i g.1 g.2; obtain ⟨q, h2⟩ := hyy i g.1 g.2
      exact ⟨w, q, fun _ _ => ⟨h1, h2⟩⟩
    · exact ⟨0, 0, fun h1 h2 => absurd ⟨h1, h2⟩ g⟩
  obtain ⟨w, hw⟩ := Classical.axiomOfChoice hw
  obtain ⟨q, hw⟩ := Classical.axiomOfChoice hw
  have np : p ≠ 0 := hp.ne
  have np2 : p * p ≠ 0 := Int.mul_ne_zero np np
  have c2 : ∀ a b : Int, p * p * a = p * p * b → a = b := fun a b h => Int.eq_of_mul_eq_mul_left np2 h
  have c3 : ∀ a b : Int, p * p * p * a = p * p * p * b → a = b := fun a b h => Int.eq_of_mul_eq_mul_left (Int.mul_ne_zero np2 np) h
  have tg : ∀ i, 1 ≤ i → i ≤ 10 → ∃ m, 2 * y i * (p * m) = 3 * X i * X i + 2 * (p * (p * b2)) * X i + c1 ∧ m * m = b2 + 2 * w i + w ((i + i) % 11) := by
    intro i h1 h2
    obtain ⟨l, e1, e2⟩ := hs.tang i h1 h2
    have q1 := (hw i h1 h2).1; have q2 := (hw ((i + i) % 11) (by omega) (by omega)).1
    obtain ⟨m, rfl⟩ := hp.sq ⟨p * b2 + 2 * p * w i + p * w ((i + i) % 11), by rw [e2, q1, q2]; grind⟩
    exact ⟨m, e1, c2 _ _ (by rw [q1, q2] at e2; grind)⟩
  have h1b : ∃ b4, c1 = p * p * p * p * b4 := by
    obtain ⟨m, e1, -⟩ := tg 1 (by omega) (by omega)
    have q1 := (hw 1 (by omega) (by omega)).1; have q2 := (hw 1 (by omega) (by omega)).2
    rw [q1, q2] at e1
    exact ⟨2 * q 1 * m - 3 * w 1 * w 1 - 2 * b2 * w 1, by grind⟩
  obtain ⟨b4, rfl⟩ := h1b
  have h0b : ∃ b6, c0 = p * p * p * p * p * p * b6 := by
    have e1 := hs.on 1 (by omega) (by omega)
    have q1 := (hw 1 (by omega) (by omega)).1; have q2 := (hw 1 (by omega) (by omega)).2
    rw [q1, q2] at e1
    exact ⟨q 1 * q 1 - w 1 * w 1 * w 1 - b2 * w 1 * w 1 - b4 * w 1, by grind⟩
  obtain ⟨b6, rfl⟩ := h0b
  refine ⟨b2, b4, b6, w, q, ⟨fun i h1 h2 => ?_, fun i h1 h2 => ?_, fun i h1 h2 => ?_, fun i j h1 h2 h3 h4 h5 h6 => ?_, fun i h1 h2 => ?_⟩, ?_⟩
  · have e1 := hs.on i h1 h2
    have q1 := (hw i h1 h2).1; have q2 := (hw i h1 h2).2
    rw [q1, q2] at e1
    exact c3 _ _ (c3 _ _ (by grind))
  · have q1 := (hw i h1 h2).1; have q2 := (hw (11 - i) (by omega) (by omega)).1
    exact c2 _ _ (by rw [← q1, ← q2, hs.opx i h1 h2])
  · have q1 := (hw i h1 h2).2; have q2 := (hw (11 - i) (by omega) (by omega)).2
    exact c3 _ _ (by rw [← q2, hs.opy i h1 h2, q1]; grind)
  · obtain ⟨m, e1, e2⟩ := sl i j h1 h2 h3 h4 h5 h6
    obtain ⟨q1, r1⟩ := hw i h1 h2; obtain ⟨q2, r2⟩ := hw j h3 h4; have q3 := (hw ((i + j) % 11) (by omega) (by omega)).1
    rw [q1, q2, q3] at e2; rw [q1, q2, r1, r2] at e1
    exact ⟨m, c3 _ _ (by grind), c2 _ _ (by grind)⟩
  · obtain ⟨m, e1, e2⟩ := tg i h1 h2
    obtain ⟨q1, r1⟩ := hw i h1 h2
    rw [q1, r1] at e1
    exact ⟨m, c2 _ _ (c2 _ _ (by grind)), e2⟩
  · unfold disc; grind
end
theorem prm3 : Prm 3 := ⟨fun a b h => by
  have h := Int.emod_eq_zero_of_dvd h
  rw [Int.mul_emod] at h
  have ha : a % 3 = 0 ∨ a % 3 = 1 ∨ a % 3 = 2 := by omega
  have hb : b % 3 = 0 ∨ b % 3 = 1 ∨ b % 3 = 2 := by omega
  rcases ha with e | e | e <;> rcases hb with f | f | f <;> simp [e, f] at h <;> omega, by decide, by decide⟩
theorem prm5 : Prm 5 := ⟨fun a b h => by
  have h := Int.emod_eq_zero_of_dvd h
  rw [Int.mul_emod] at h
  have ha : a % 5 = 0 ∨ a % 5 = 1 ∨ a % 5 = 2 ∨ a % 5 = 3 ∨ a % 5 = 4 := by omega
  have hb : b % 5 = 0 ∨ b % 5 = 1 ∨ b % 5 = 2 ∨ b % 5 = 3 ∨ b % 5 = 4 := by omega
  rcases ha with e | e | e | e | e <;> rcases hb with f | f | f | f | f <;> simp [e, f] at h <;> omega, by decide, by decide⟩
theorem hole3 (a b c d : Int) : 3 ∣ a - b ∨ 3 ∣ a - c ∨ 3 ∣ a - d ∨ 3 ∣ b - c ∨ 3 ∣ b - d ∨ 3 ∣ c - d := by omega
theorem perm5 : ∀ a b c d e : Fin 5, a ≠ b → a ≠ c → a ≠ d → a ≠ e → b ≠ c → b ≠ d → b ≠ e → c ≠ d → c ≠ e → d ≠ e → ∀ r, r = a ∨ r = b ∨ r = c ∨ r = d ∨ r = e := by decide +kernel
def f5 (x : Int) : Fin 5 := ⟨(x % 5).toNat, by omega⟩
theorem f5_ne {x y : Int} (h : ¬ 5 ∣ x - y) : f5 x ≠ f5 y := by
  intro e
  have := congrArg Fin.val e
  simp only [f5] at this
  omega
theorem f5_eq {r : Fin 5} {x : Int} (h : r = f5 x) : x % 5 = (r.val : Int) := by
  rw [h]; simp only [f5]; omega
/-- Five integers, no two of them alike modulo 5: every residue is among them. -/
theorem all5 {a b c d e : Int} (h : ¬ (5 ∣ a - b ∨ 5 ∣ a - c ∨ 5 ∣ a - d ∨ 5 ∣ a - e ∨ 5 ∣ b - c ∨ 5 ∣ b - d ∨ 5 ∣ b - e ∨ 5 ∣ c - d ∨ 5 ∣ c - e ∨ 5 ∣ d - e)) (P : Int → Prop) (ha : P (a % 5)) (hb : P (b % 5)) (hc : P (c % 5)) (hd : P (d % 5)) (he : P (e % 5)) :
    P 0 ∧ P 1 ∧ P 2 ∧ P 3 ∧ P 4 := by
  simp only [not_or] at h
  obtain ⟨h1, h2, h3, h4, h5, h6, h7, h8, h9, h10⟩ := h
  have key := perm5 (f5 a) (f5 b) (f5 c) (f5 d) (f5 e) (f5_ne h1) (f5_ne h2) (f5_ne h3) (f5_ne h4) (f5_ne h5) (f5_ne h6) (f5_ne h7) (f5_ne h8) (f5_ne h9) (f5_ne h10)
  have get : ∀ r : Fin 5, P (r.val : Int) := by
    intro r
    rcases key r with g | g | g | g | g
    · rw [← f5_eq g]; exact ha
    · rw [← f5_eq g]; exact hb
    · rw [← f5_eq g]; exact hc
    · rw [← f5_eq g]; exact hd
    · rw [← f5_eq g]; exact he
  exact ⟨get 0, get 1, get 2, get 3, get 4⟩
theorem cub5 : ∀ A B : Fin 5, ¬ ∀ x : Fin 5, (x.val * x.val * x.val + A.val * x.val + B.val) % 5 = 1 ∨ (x.val * x.val * x.val + A.val * x.val + B.val) % 5 = 4 := by decide +kernel
theorem qud5 : ∀ A B C : Fin 5, (∀ x : Fin 5, (A.val * x.val * x.val + B.val * x.val + C.val) % 5 = 1 ∨ (A.val * x.val * x.val + B.val * x.val + C.val) % 5 = 4) → A = 0 := by decide +kernel
theorem sq5 {y : Int} (h : ¬ 5 ∣ y) : (y * y) % 5 = 1 ∨ (y * y) % 5 = 4 := by
  rw [Int.mul_emod]
  have ha : y % 5 = 1 ∨ y % 5 = 2 ∨ y % 5 = 3 ∨ y % 5 = 4 := by omega
  rcases ha with e | e | e | e <;> rw [e] <;> decide
theorem cubmod (A B x : Int) : (x * x * x + A * x + B) % 5 = ((x % 5) * (x % 5) * (x % 5) + (A % 5) * (x % 5) + B % 5) % 5 := by simp [Int.add_emod, Int.mul_emod]
theorem qudmod (A B C x : Int) : (A * x * x + B * x + C) % 5 = ((A % 5) * (x % 5) * (x % 5) + (B % 5) * (x % 5) + C % 5) % 5 := by simp [Int.add_emod, Int.mul_emod]
theorem cub5' {A B : Int} (h : ∀ x : Int, (x = 0 ∨ x = 1 ∨ x = 2 ∨ x = 3 ∨ x = 4) → (x * x * x + (A % 5) * x + B % 5) % 5 = 1 ∨ (x * x * x + (A % 5) * x + B % 5) % 5 = 4) : False := by
  refine cub5 (f5 A) (f5 B) fun x => ?_
  have := h (x.val : Int) (by omega)
  have e1 : A % 5 = ((f5 A).val : Int) := f5_eq rfl
  have e2 : B % 5 = ((f5 B).val : Int) := f5_eq rfl
  rw [e1, e2] at this
  have c : ((x.val : Int) * (x.val : Int) * (x.val : Int) + ((f5 A).val : Int) * (x.val : Int) + ((f5 B).val : Int)) % 5 = (((x.val * x.val * x.val + (f5 A).val * x.val + (f5 B).val) % 5 : Nat) : Int) := by simp
  rw [c] at this
  omega
theorem qud5' {A B C : Int} (h : ∀ x : Int, (x = 0 ∨ x = 1 ∨ x = 2 ∨ x = 3 ∨ x = 4) → ((A % 5) * x * x + (B % 5) * x + C % 5) % 5 = 1 ∨ ((A % 5) * x * x + (B % 5) * x + C % 5) % 5 = 4) : 5 ∣ A := by
  have key := qud5 (f5 A) (f5 B) (f5 C) (fun x => by
    have := h (x.val : Int) (by omega)
    have e1 : A % 5 = ((f5 A).val : Int) := f5_eq rfl
    have e2 : B % 5 = ((f5 B).val : Int) := f5_eq rfl
    have e3 : C % 5 = ((f5 C).val : Int) := f5_eq rfl
    rw [e1, e2, e3] at this
    have c : (((f5 A).val : Int) * (x.val : Int) * (x.val : Int) + ((f5 B).val : Int) * (x.val : Int) + ((f5 C).val : Int)) % 5 = ((((f5 A).val * x.val * x.val + (f5 B).val * x.val + (f5 C).val) % 5 : Nat) : Int) := by simp
    rw [c] at this
    omega)
  have e1 : A % 5 = ((f5 A).val : Int) := f5_eq rfl
  rw [key] at e1
  exact Int.dvd_of_emod_eq_zero e1
section
variable {a2 a4 a6 A B : Int} {x y : Nat → Int}
/-- Modulo 3 there are not enough first coordinates. -/
theorem Fam.three (h : Fam a2 a4 a6 x y) : ∀ j, 1 ≤ j → j ≤ 10 → 3 ∣ y j := by
  have go : ∀ i j, 1 ≤ i → i ≤ 5 → 1 ≤ j → j ≤ 5 → i ≠ j → 3 ∣ x i - x j → ∀ j, 1 ≤ j → j ≤ 10 → 3 ∣ y j := fun i j h1 h2 h3 h4 h5 hd =>
    h.allY prm3 h1 (by omega) (h.dvd_y prm3 h1 (by omega) h3 (by omega) h5 (by omega) hd)
  rcases hole3 (x 1) (x 2) (x 3) (x 4) with g | g | g | g | g | g
  · exact go 1 2 (by omega) (by omega) (by omega) (by omega) (by omega) g
  · exact go 1 3 (by omega) (by omega) (by omega) (by omega) (by omega) g
  · exact go 1 4 (by omega) (by omega) (by omega) (by omega) (by omega) g
  · exact go 2 3 (by omega) (by omega) (by omega) (by omega) (by omega) g
  · exact go 2 4 (by omega) (by omega) (by omega) (by omega) (by omega) g
  · exact go 3 4 (by omega) (by omega) (by omega) (by omega) (by omega) g
theorem Fam.disc3 (h : Fam a2 a4 a6 x y) : 81 ∣ disc a2 a4 a6 := by
  have hall := h.three
  have near : ∀ j, 1 ≤ j → j ≤ 10 → 3 ∣ x j - x 1 := (h.near prm3 hall (show 1 ≤ 1 by omega) (by omega)).2.2
  obtain ⟨t2, k2⟩ := near 2 (by omega) (by omega); obtain ⟨t3, k3⟩ := near 3 (by omega) (by omega); obtain ⟨t4, k4⟩ := near 4 (by omega) (by omega)
  have go : ∀ i j, 1 ≤ i → i ≤ 5 → 1 ≤ j → j ≤ 5 → i ≠ j → (3 : Int) * 3 ∣ x i - x j → 81 ∣ disc a2 a4 a6 := fun i j h1 h2 h3 h4 h5 hd =>
    h.close prm3 h1 (by omega) h3 (by omega) h5 (by omega) hd
  rcases hole3 0 t2 t3 t4 with ⟨g, e⟩ | ⟨g, e⟩ | ⟨g, e⟩ | ⟨g, e⟩ | ⟨g, e⟩ | ⟨g, e⟩
  · exact go 1 2 (by omega) (by omega) (by omega) (by omega) (by omega) ⟨g, by omega⟩
  · exact go 1 3 (by omega) (by omega) (by omega) (by omega) (by omega) ⟨g, by omega⟩
  · exact go 1 4 (by omega) (by omega) (by omega) (by omega) (by omega) ⟨g, by omega⟩
  · exact go 2 3 (by omega) (by omega) (by omega) (by omega) (by omega) ⟨g, by omega⟩
  · exact go 2 4 (by omega) (by omega) (by omega) (by omega) (by omega) ⟨g, by omega⟩
  · exact go 3 4 (by omega) (by omega) (by omega) (by omega) (by omega) ⟨g, by omega⟩
theorem pick5 {Q : Nat → Nat → Prop} (a b c d e : Int) (f : Nat → Int) (ha : f 1 = a) (hb : f 2 = b) (hc : f 3 = c) (hd : f 4 = d) (he : f 5 = e) (go : ∀ i j, 1 ≤ i → i ≤ 5 → 1 ≤ j → j ≤ 5 → i ≠ j → 5 ∣ f i - f j → Q i j)
    (h : 5 ∣ a - b ∨ 5 ∣ a - c ∨ 5 ∣ a - d ∨ 5 ∣ a - e ∨ 5 ∣ b - c ∨ 5 ∣ b - d ∨ 5 ∣ b - e ∨ 5 ∣ c - d ∨ 5 ∣ c - e ∨ 5 ∣ d - e) : ∃ i j, 1 ≤ i ∧ i ≤ 5 ∧ 1 ≤ j ∧ j ≤ 5 ∧ i ≠ j ∧ Q i j := by
  subst ha hb hc hd he
  rcases h with g | g | g | g | g | g | g | g | g | g
  · exact ⟨1, 2, by omega, by omega, by omega, by omega, by omega, go 1 2 (by omega) (by omega) (by omega) (by omega) (by omega) g⟩
  · exact ⟨1, 3, by omega, by omega, by omega, by omega, by omega, go 1 3 (by omega) (by omega) (by omega) (by omega) (by omega) g⟩
  · exact ⟨1, 4, by omega, by omega, by omega, by omega, by omega, go 1 4 (by omega) (by omega) (by omega) (by omega) (by omega) g⟩
  · exact ⟨1, 5, by omega, by omega, by omega, by omega, by omega, go 1 5 (by omega) (by omega) (by omega) (by omega) (by omega) g⟩
  · exact ⟨2, 3, by omega, by omega, by omega, by omega, by omega, go 2 3 (by omega) (by omega) (by omega) (by omega) (by omega) g⟩
  · exact ⟨2, 4, by omega, by omega, by omega, by omega, by omega, go 2 4 (by omega) (by omega) (by omega) (by omega) (by omega) g⟩
  · exact ⟨2, 5, by omega, by omega, by omega, by omega, by omega, go 2 5 (by omega) (by omega) (by omega) (by omega) (by omega) g⟩
  · exact ⟨3, 4, by omega, by omega, by omega, by omega, by omega, go 3 4 (by omega) (by omega) (by omega) (by omega) (by omega) g⟩
  · exact ⟨3, 5, by omega, by omega, by omega, by omega, by omega, go 3 5 (by omega) (by omega) (by omega) (by omega) (by omega) g⟩
  · exact ⟨4, 5, by omega, by omega, by omega, by omega, by omega, go 4 5 (by omega) (by omega) (by omega) (by omega) (by omega) g⟩
theorem Fam.five (h : Fam 0 A B x y) : ∀ j, 1 ≤ j → j ≤ 10 → 5 ∣ y j := by
  have go : ∀ i, 1 ≤ i → i ≤ 10 → 5 ∣ y i → ∀ j, 1 ≤ j → j ≤ 10 → 5 ∣ y j := fun i h1 h2 hd => h.allY prm5 h1 h2 hd
  by_cases hp : 5 ∣ x 1 - x 2 ∨ 5 ∣ x 1 - x 3 ∨ 5 ∣ x 1 - x 4 ∨ 5 ∣ x 1 - x 5 ∨ 5 ∣ x 2 - x 3 ∨ 5 ∣ x 2 - x 4 ∨ 5 ∣ x 2 - x 5 ∨ 5 ∣ x 3 - x 4 ∨ 5 ∣ x 3 - x 5 ∨ 5 ∣ x 4 - x 5
  · obtain ⟨i, j, h1, h2, -, -, -, hq⟩ := pick5 (Q := fun i j => 5 ∣ y i) _ _ _ _ _ x rfl rfl rfl rfl rfl (fun i j h1 h2 h3 h4 h5 hd => h.dvd_y prm5 h1 (by omega) h3 (by omega) h5 (by omega) hd) hp
    exact go i h1 (by omega) hq
  apply Classical.byContradiction
  intro hno
  have hy : ∀ i, 1 ≤ i → i ≤ 10 → ¬ 5 ∣ y i := fun i h1 h2 hd => hno (go i h1 h2 hd)
  have val : ∀ i, 1 ≤ i → i ≤ 10 → ((x i % 5) * (x i % 5) * (x i % 5) + (A % 5) * (x i % 5) + B % 5) % 5 = 1 ∨ ((x i % 5) * (x i % 5) * (x i % 5) + (A % 5) * (x i % 5) + B % 5) % 5 = 4 := by
    intro i h1 h2
    rw [← cubmod]
    have := h.on i h1 h2
    have e : x i * x i * x i + A * x i + B = y i * y i := by rw [this]; grind
    rw [e]; exact sq5 (hy i h1 h2)
  obtain ⟨p0, p1, p2, p3, p4⟩ := all5 hp (fun r => (r * r * r + (A % 5) * r + B % 5) % 5 = 1 ∨ (r * r * r + (A % 5) * r + B % 5) % 5 = 4) (val 1 (by omega) (by omega)) (val 2 (by omega) (by omega)) (val 3 (by omega) (by omega)) (val 4 (by omega) (by omega)) (val 5 (by omega) (by omega))
  exact cub5' (A := A) (B := B) (fun r hr => by rcases hr with rfl | rfl | rfl | rfl | rfl <;> assumption)
theorem Fam.disc5 (h : Fam 0 A B x y) : 625 ∣ disc 0 A B := by
  have hall := h.five
  obtain ⟨e0, ⟨b1, e1⟩, near⟩ := h.near prm5 hall (show 1 ≤ 1 by omega) (by omega)
  have hu : ∀ i, ∃ u v, 1 ≤ i → i ≤ 10 → x i - x 1 = 5 * u ∧ y i = 5 * v := by
    intro i
    by_cases g : 1 ≤ i ∧ i ≤ 10
    · obtain ⟨w, h1⟩ := near i g.1 g.2; obtain ⟨q, h2⟩ := hall i g.1 g.2
      exact ⟨w, q, fun _ _ => ⟨h1, h2⟩⟩
    · exact ⟨0, 0, fun h1 h2 => absurd ⟨h1, h2⟩ g⟩
  obtain ⟨u, hu⟩ := Classical.axiomOfChoice hu
  obtain ⟨v, hu⟩ := Classical.axiomOfChoice hu
  by_cases hp : 5 ∣ u 1 - u 2 ∨ 5 ∣ u 1 - u 3 ∨ 5 ∣ u 1 - u 4 ∨ 5 ∣ u 1 - u 5 ∨ 5 ∣ u 2 - u 3 ∨ 5 ∣ u 2 - u 4 ∨ 5 ∣ u 2 - u 5 ∨ 5 ∣ u 3 - u 4 ∨ 5 ∣ u 3 - u 5 ∨ 5 ∣ u 4 - u 5
  · obtain ⟨i, j, h1, h2, -, -, -, hq⟩ := pick5 (Q := fun i j => 625 ∣ disc 0 A B) _ _ _ _ _ u rfl rfl rfl rfl rfl (fun i j h1 h2 h3 h4 h5 ⟨t, ht⟩ => h.close prm5 h1 (by omega) h3 (by omega) h5 (by omega) ⟨t, by
      have g1 := (hu i h1 (by omega)).1; have g2 := (hu j h3 (by omega)).1; omega⟩) hp
    exact hq
  by_cases hv : ∃ i, 1 ≤ i ∧ i ≤ 10 ∧ 5 ∣ v i
  · obtain ⟨i, h1, h2, t, ht⟩ := hv
    exact h.deep prm5 h1 h2 ⟨t, by rw [(hu i h1 h2).2, ht]; grind⟩
  exfalso
  have hno : ∀ i, 1 ≤ i → i ≤ 10 → ¬ 5 ∣ v i := fun i h1 h2 hd => hv ⟨i, h1, h2, hd⟩
  have hs := h.shift (x 1)
  obtain ⟨b0, hb0⟩ : ∃ b0, F0 0 A B (x 1) = 25 * b0 := ⟨v 1 * v 1, by rw [e0, (hu 1 (by omega) (by omega)).2]; grind⟩
  rw [hb0, e1] at hs
  generalize hal : F2 0 (x 1) = al at *
  have eqn : ∀ i, 1 ≤ i → i ≤ 10 → v i * v i = 5 * (u i * u i * u i) + (al * u i * u i + b1 * u i + b0) := by
    intro i h1 h2
    have hh : y i * y i = (x i - x 1) * (x i - x 1) * (x i - x 1) + al * (x i - x 1) * (x i - x 1) + 5 * b1 * (x i - x 1) + 25 * b0 := hs.on i h1 h2
    have g := hu i h1 h2
    rw [g.1, g.2] at hh
    grind
  have val : ∀ i, 1 ≤ i → i ≤ 10 → ((al % 5) * (u i % 5) * (u i % 5) + (b1 % 5) * (u i % 5) + b0 % 5) % 5 = 1 ∨ ((al % 5) * (u i % 5) * (u i % 5) + (b1 % 5) * (u i % 5) + b0 % 5) % 5 = 4 := by
    intro i h1 h2
    rw [← qudmod]
    have e2 := sq5 (hno i h1 h2)
    rw [eqn i h1 h2] at e2
    omega
  obtain ⟨p0, p1, p2, p3, p4⟩ := all5 hp (fun r => ((al % 5) * r * r + (b1 % 5) * r + b0 % 5) % 5 = 1 ∨ ((al % 5) * r * r + (b1 % 5) * r + b0 % 5) % 5 = 4) (val 1 (by omega) (by omega)) (val 2 (by omega) (by omega)) (val 3 (by omega) (by omega)) (val 4 (by omega) (by omega)) (val 5 (by omega) (by omega))
  obtain ⟨a, ha⟩ := qud5' (A := al) (B := b1) (C := b0) (fun r hr => by rcases hr with rfl | rfl | rfl | rfl | rfl <;> assumption)
  have sl : ∀ j, 1 ≤ j → j ≤ 10 → 1 ≠ j → 1 + j ≠ 11 → ∃ m, y 1 - y j = 5 * m * (x 1 - x j) := by
    intro j h3 h4 h5 h6
    obtain ⟨l, c1, c2⟩ := h.chord 1 j (by omega) (by omega) h3 h4 h5 h6
    obtain ⟨t2, q2⟩ := near j h3 h4; obtain ⟨t3, q3⟩ := near ((1 + j) % 11) (by omega) (by omega)
    have hal' : 3 * x 1 = al := by rw [← hal]; unfold F2; omega
    obtain ⟨m, rfl⟩ := prm5.sq (a := l) ⟨a + t2 + t3, by omega⟩
    exact ⟨m, c1⟩
  obtain ⟨m, f1⟩ := sl 2 (by omega) (by omega) (by omega) (by omega)
  obtain ⟨n, f2⟩ := sl 9 (by omega) (by omega) (by omega) (by omega)
  have o1 := h.opx 2 (by omega) (by omega); have o2 := h.opy 2 (by omega) (by omega)
  simp only [Nat.reduceSub] at o1 o2
  rw [o1, o2] at f2
  have g1 := hu 1 (by omega) (by omega); have g2 := hu 2 (by omega) (by omega)
  refine hno 1 (by omega) (by omega) (prm5.both (b := v 2) ⟨-(m * u 2), ?_⟩ ⟨-(n * u 2), ?_⟩)
  · have : x 1 - x 2 = -(5 * u 2) := by omega
    rw [this, g1.2, g2.2] at f1
    have : 5 * (v 1 - v 2) = 5 * (5 * -(m * u 2)) := by grind
    omega
  · have : x 1 - x 2 = -(5 * u 2) := by omega
    rw [this, g1.2, g2.2] at f2
    have : 5 * (v 1 + v 2) = 5 * (5 * -(n * u 2)) := by grind
    omega
theorem fin11 {P Q k k5 : Int} (e : -(4 * P + 27 * Q) = 3 * 3 * 3 * 3 * 3 * 3 * 3 * 3 * 3 * 3 * 3 * 3 * (81 * k)) (hk5 : -(4 * P + 27 * Q) = 625 * k5) (hd : 4 * P + 27 * Q ≠ 0) (bA : -1000000000 ≤ P ∧ P ≤ 1000000000) (bB : -100000000 ≤ Q ∧ Q ≤ 100000000) : False := by
  have e2 : -(4 * P + 27 * Q) = 43046721 * k := by rw [e]; grind
  clear e
  omega
/-- No point of order 11 on a curve of the program's size. -/
theorem no_eleven (h : Fam 0 A B x y) (hA : -1000 ≤ A) (hA2 : A ≤ 1000) (hB : -10000 ≤ B) (hB2 : B ≤ 10000) (hd : 4 * A * A * A + 27 * B * B ≠ 0) : False := by
  have h5 := h.disc5
  obtain ⟨b2, b4, b6, u, v, g, e⟩ := h.cusp prm3 h.three ⟨x 1, by unfold F2; omega⟩
  have h3 := g.disc3
  have e2 : disc 0 A B = -(4 * A * A * A + 27 * B * B) := by unfold disc; grind
  obtain ⟨k, hk⟩ := h3
  rw [hk] at e
  rw [e2] at e h5
  obtain ⟨k5, hk5⟩ := h5
  have bA : -1000000000 ≤ A * A * A ∧ A * A * A ≤ 1000000000 := by
    have h1 : (A * A).natAbs ≤ 1000000 := by
      rw [Int.natAbs_mul]; have := Nat.mul_le_mul (show A.natAbs ≤ 1000 by omega) (show A.natAbs ≤ 1000 by omega); omega
    have h2 : (A * A * A).natAbs ≤ 1000000000 := by
      rw [Int.natAbs_mul]; have := Nat.mul_le_mul h1 (show A.natAbs ≤ 1000 by omega); omega
    omega
  have bB : -100000000 ≤ B * B ∧ B * B ≤ 100000000 := by
    have h1 : (B * B).natAbs ≤ 100000000 := by
      rw [Int.natAbs_mul]; have := Nat.mul_le_mul (show B.natAbs ≤ 10000 by omega) (show B.natAbs ≤ 10000 by omega); omega
    omega
  have e4 : 4 * A * A * A + 27 * B * B = 4 * (A * A * A) + 27 * (B * B) := by grind
  rw [e4] at e hk5 hd
  exact fin11 e hk5 hd bA bB
end
end N11
theorem toQ_one (x y : Int) : EC.toQ (x, y, 1) = some ((x : Rat), (y : Rat)) := by
  have h : (1 : Rat)⁻¹ = 1 := by grind
  unfold EC.toQ
  rw [if_neg (by simp)]
  simp [h]
theorem icast {a b : Int} (h : (a : Rat) = (b : Rat)) : a = b := Rat.intCast_inj.1 h
theorem ord_ne11 {A B : Int} (hC : isC A B = true) {p : P3} (hp : EC.PV A B p) (h : (ordV A p).2 = true) : (ordV A p).1 ≠ 11 := by
  intro e11
  obtain ⟨n, T⟩ := tor_of hp h
  have hn : n = 11 := by have := T.ord; omega
  subst hn
  have hns := disc_ne0 hC
  have ns := EC.disc_ne hns
  have hq : ∀ j, ∃ q : P3, 1 ≤ j → j ≤ 10 → mulO A p j = some q ∧ EC.PV A B q ∧ EC.toQ q = EC.nmul (A : Rat) j (EC.toQ p) ∧ q.2.2 = 1 := by
    intro j
    by_cases g : 1 ≤ j ∧ j ≤ 10
    · obtain ⟨q, h1, h2, h3⟩ := T.some_ (j := j) (by omega)
      obtain ⟨q', h1', h4⟩ := T.mid j (by omega) (by omega)
      rw [h1] at h1'; obtain rfl := Option.some.inj h1'
      refine ⟨q, fun _ _ => ⟨h1, h2, h3, ?_⟩⟩
      have hm := T.mem hC h1
      obtain ⟨L, hL, hc⟩ := tps_zero A B
      rw [hL] at hm
      rcases List.mem_cons.1 hm with rfl | hm
      · exact absurd rfl h4
      · exact cds_E (hc q hm)
    · exact ⟨(0, 0, 0), fun h1 h2 => absurd ⟨h1, h2⟩ g⟩
  obtain ⟨q, hq⟩ := Classical.axiomOfChoice hq
  have hN : ∀ j, 1 ≤ j → j ≤ 10 → EC.nmul (A : Rat) j (EC.toQ p) = some (((q j).1 : Rat), ((q j).2.1 : Rat)) := by
    intro j h1 h2
    obtain ⟨-, -, h3, h4⟩ := hq j h1 h2
    rw [← h3, ← toQ_one]
    congr 1
    rw [← h4]
  have hon : ∀ j, 1 ≤ j → j ≤ 10 → EC.On (A : Rat) B ((q j).1 : Rat) ((q j).2.1 : Rat) := by
    intro j h1 h2
    have := EC.nmul_on EC.two_rat hp.on j
    rw [hN j h1 h2] at this
    exact this
  have hadd : ∀ i j, 1 ≤ i → i ≤ 10 → 1 ≤ j → j ≤ 10 → i + j ≠ 11 → EC.add (A : Rat) (some (((q i).1 : Rat), ((q i).2.1 : Rat))) (some (((q j).1 : Rat), ((q j).2.1 : Rat))) = some (((q ((i + j) % 11)).1 : Rat), ((q ((i + j) % 11)).2.1 : Rat)) := by
    intro i j h1 h2 h3 h4 h5
    rw [← hN i h1 h2, ← hN j h3 h4, ← hN ((i + j) % 11) (by omega) (by omega), ← EC.nmul_add EC.two_rat ns hp.on]
    by_cases g : i + j < 11
    · rw [Nat.mod_eq_of_lt g]
    · have e : i + j = 11 + (i + j) % 11 := by omega
      have e2 := EC.nmul_add EC.two_rat ns hp.on 11 ((i + j) % 11)
      rw [T.nfin, EC.zero_add, ← e] at e2
      exact e2
  have hopp : ∀ i, 1 ≤ i → i ≤ 10 → (q (11 - i)).1 = (q i).1 ∧ (q (11 - i)).2.1 = -(q i).2.1 := by
    intro i h1 h2
    have e2 := EC.nmul_add EC.two_rat ns hp.on i (11 - i)
    rw [show i + (11 - i) = 11 by omega, T.nfin, hN i h1 h2, hN (11 - i) (by omega) (by omega)] at e2
    rcases EC.add_cases EC.two_rat (hon i h1 h2) (hon (11 - i) (by omega) (by omega)) with ⟨g1, g2, -⟩ | ⟨-, x3, y3, g, -⟩
    · exact ⟨icast g1, icast (by rw [g2, Rat.intCast_neg])⟩
    · rw [← e2] at g; cases g
  have hsum : ∀ i j, 1 ≤ i → i ≤ 10 → 1 ≤ j → j ≤ 10 → i + j ≠ 11 → ∃ m : Int, (m * ((q j).1 - (q i).1) = (q j).2.1 - (q i).2.1 ∧ (q j).1 ≠ (q i).1 ∨ (q j).1 = (q i).1 ∧ (q j).2.1 = (q i).2.1 ∧ m * (2 * (q i).2.1) = 3 * (q i).1 * (q i).1 + A) ∧ m * m = (q ((i + j) % 11)).1 + (q i).1 + (q j).1 := by
    intro i j h1 h2 h3 h4 h5
    rcases EC.add_cases EC.two_rat (hon i h1 h2) (hon j h3 h4) with ⟨-, -, g⟩ | ⟨-, x3, y3, g, l, hl, g1, -⟩
    · rw [hadd i j h1 h2 h3 h4 h5] at g; cases g
    · rw [hadd i j h1 h2 h3 h4 h5] at g
      simp only [Option.some.injEq, Prod.mk.injEq] at g
      rw [← g.1] at g1
      have e3 : l * l = (((q ((i + j) % 11)).1 + (q i).1 + (q j).1 : Int) : Rat) := by
        rw [Rat.intCast_add, Rat.intCast_add, g1]; grind
      obtain ⟨m, rfl, hm⟩ := EC.rat_sq_int e3
      refine ⟨m, ?_, hm⟩
      rcases hl with ⟨k1, k2⟩ | ⟨k1, k2, -, k4⟩
      · refine .inl ⟨icast ?_, fun h => k1 (by rw [h]; grind)⟩
        rw [Rat.intCast_mul, Rat.intCast_sub, Rat.intCast_sub]; exact k2
      · refine .inr ⟨icast k1, icast k2, icast ?_⟩
        simp only [Rat.intCast_mul, Rat.intCast_add]
        exact k4
  have hne : ∀ i j, 1 ≤ i → i ≤ 10 → 1 ≤ j → j ≤ 10 → i ≠ j → ¬ ((q j).1 = (q i).1 ∧ (q j).2.1 = (q i).2.1) := by
    intro i j h1 h2 h3 h4 h5 ⟨k1, k2⟩
    have e : q j = q i := by
      obtain ⟨-, -, -, f1⟩ := hq i h1 h2; obtain ⟨-, -, -, f2⟩ := hq j h3 h4
      exact Prod.ext k1 (Prod.ext k2 (by rw [f1, f2]))
    have e2 : mulO A p i = mulO A p j := by rw [(hq i h1 h2).1, (hq j h3 h4).1, e]
    rcases Nat.lt_or_gt_of_ne h5 with g | g
    · exact T.inj hC g (by omega) (.inl (by omega)) e2
    · exact T.inj hC g (by omega) (.inl (by omega)) e2.symm
  obtain ⟨hA1, hA2, hB1, hB2, -⟩ := isC_ff hC
  refine N11.no_eleven (A := A) (B := B) (x := fun i => (q i).1) (y := fun i => (q i).2.1) ⟨fun i h1 h2 => ?_, fun i h1 h2 => (hopp i h1 h2).1, fun i h1 h2 => (hopp i h1 h2).2, fun i j h1 h2 h3 h4 h5 h6 => ?_, fun i h1 h2 => ?_⟩ hA1 hA2 hB1 hB2 hns
  · have := hon i h1 h2
    unfold EC.On at this
    have e : ((((q i).2.1 * (q i).2.1 : Int)) : Rat) = (((q i).1 * (q i).1 * (q i).1 + 0 * (q i).1 * (q i).1 + A * (q i).1 + B : Int) : Rat) := by
      simp only [Rat.intCast_mul, Rat.intCast_add]; rw [this]; grind
    exact icast e
  · obtain ⟨m, hm, hm2⟩ := hsum i j h1 h2 h3 h4 h6
    rcases hm with ⟨k1, -⟩ | ⟨k1, k2, -⟩
    · exact ⟨m, by grind, by rw [hm2]; grind⟩
    · exact absurd ⟨k1, k2⟩ (hne i j h1 h2 h3 h4 h5)
  · obtain ⟨m, hm, hm2⟩ := hsum i i h1 h2 h1 h2 (by omega)
    rcases hm with ⟨-, k⟩ | ⟨-, -, k⟩
    · exact absurd rfl k
    · exact ⟨m, by grind, by rw [hm2]; grind⟩
/-! ### multiples of points, of both signs -/

theorem opp_opp (p : P3) : EC.opp (EC.opp p) = p := by unfold EC.opp; simp
theorem sumO_opp {A B : Int} {p q : P3} (hp : EC.PV A B p) (hq : EC.PV A B q) {r : P3} (h : EC.sumO A p q = some r) : EC.sumO A (EC.opp p) (EC.opp q) = some (EC.opp r) := by
  obtain ⟨hr, e⟩ := EC.sumO_PV hp hq h
  unfold EC.sumO
  rw [EC.toQ_opp, EC.toQ_opp, ← EC.neg_add EC.two_rat hp.on hq.on, ← e, ← EC.toQ_opp]
  exact EC.rep_toQ (EC.opp_PV hr)
theorem mulO_PV {A B : Int} {p : P3} (hp : EC.PV A B p) {k : Nat} {q : P3} (h : mulO A p k = some q) : EC.PV A B q := (mulO_nmul hp k q h).1
theorem mulO_oppS {A B : Int} {p : P3} (hp : EC.PV A B p) : ∀ (k : Nat) (q : P3), mulO A p k = some q → mulO A (EC.opp p) k = some (EC.opp q)
  | 0, q, h => by
    have : (0, 0, 0) = q := Option.some.inj h
    subst this; rfl
  | k + 1, q, h => by
    cases hk : mulO A p k with
    | none => rw [mulO_none hk 1] at h; cases h
    | some r =>
      rw [mulO_succ hk] at h
      rw [mulO_succ (mulO_oppS hp k r hk)]
      exact sumO_opp (mulO_PV hp hk) hp h
theorem mulO_opp {A B : Int} {p : P3} (hp : EC.PV A B p) (k : Nat) : mulO A (EC.opp p) k = (mulO A p k).map EC.opp := by
  cases h : mulO A p k with
  | some q => exact mulO_oppS hp k q h
  | none =>
    cases g : mulO A (EC.opp p) k with
    | none => rfl
    | some q =>
      have := mulO_oppS (EC.opp_PV hp) k q g
      rw [opp_opp, h] at this; cases this
theorem mulO_pre {A : Int} {p q : P3} {k j : Nat} (h : mulO A p k = some q) (hj : j ≤ k) : ∃ r, mulO A p j = some r := by
  cases g : mulO A p j with
  | some r => exact ⟨r, rfl⟩
  | none =>
    have := mulO_none g (k - j)
    rw [show j + (k - j) = k by omega, h] at this; cases this
theorem mlL_full {A : Int} {p : P3} : ∀ {n : Nat} {q : P3}, mulO A p n = some q → (mlL A p n).length = n ∧ ∀ k, k < n → (mlL A p n)[k]? = mulO A p (k + 1)
  | 0, _, _ => ⟨rfl, fun k hk => absurd hk (by omega)⟩
  | n + 1, q, h => by
    obtain ⟨r, hr⟩ := mulO_pre h (show n ≤ n + 1 by omega)
    obtain ⟨h1, h2⟩ := mlL_full hr
    rw [mlL_succ h]
    refine ⟨by rw [List.length_append, h1]; rfl, fun k hk => ?_⟩
    by_cases g : k < n
    · rw [List.getElem?_append_left (by omega)]; exact h2 k g
    · obtain rfl : k = n := by omega
      rw [List.getElem?_append_right (by omega), h1, h]; simp
/-- n times a point. -/
def mpO (A : Int) (p : P3) (n : Int) : Option P3 := if n < 0 then mulO A (EC.opp p) n.natAbs else mulO A p n.natAbs
def mpT (r : Option P3) : Value := match r with
  | some r => .tuple #[.agg #[.int .i64 r.1, .int .i64 r.2.1, .int .i64 r.2.2], .bool true]
  | none => .tuple #[.agg #[.int .i64 0, .int .i64 0, .int .i64 0], .bool false]
def mpR (a b x y e n : Int) : Option P3 := if ptB a b x y e && inB n (-12) 12 then mpO a (x, y, e) n else none
theorem mulV_T (A : Int) (p : P3) (n : Nat) : mulV A p n = mpT (mulO A p n) := by unfold mulV mpT; cases mulO A p n <;> rfl
theorem mpT_f (r : Option P3) : ∃ u v t : Int, ∃ ok : Bool, mpT r = .tuple #[.agg #[.int .i64 u, .int .i64 v, .int .i64 t], .bool ok] := by
  cases r with
  | none => exact ⟨0, 0, 0, false, rfl⟩
  | some q => exact ⟨q.1, q.2.1, q.2.2, true, rfl⟩

theorem name_worldM {P : Program} {f : FuncId} {args : Array Value} {W : World} {Q : Ending → World → Prop} (h : ∀ V, V = W → Calls P f args V Q) : Calls P f args W Q := h W rfl
theorem ptMinusM_any (x y e : Int) (h : -9223372036854775807 ≤ y) (h' : y ≤ 9223372036854775807) (w : World) : Calls Try.prog 41 #[.agg #[.int .i64 x, .int .i64 y, .int .i64 e]] w (Gives (.agg #[.int .i64 x, .int .i64 (-y), .int .i64 e]) w) := by
  have hw : wrap64 (-y) = -y := win (by omega)
  go_enter Try.func41, Try.ntmps41
  go_wp2
  refine bodyPost_ret (v := .agg #[.int .i64 x, .int .i64 (-y), .int .i64 e]) (by simp [results, Try.results41, go_sem, hw]) rfl (gives rfl (by repeat' (first | (with_reducible exact Below.refl _ _) | (with_reducible assumption) | (with_reducible refine Below.alloc ?_ ?_ _) | (with_reducible refine Below.setCell ?_ ?_ _) | (with_reducible refine Below.drew ?_) | (with_reducible refine below_drewN ?_ _) | (apply bthen2; (with_reducible assumption)) | go_size)))
set_option maxRecDepth 100000 in
set_option maxHeartbeats 4000000 in
theorem ptTimes_negL (A B x y z e : Int) (N : Nat) (hN : N ≤ 1000000) (hN1 : 1 ≤ N) (hC : isC A B = true) (hz : y = -z) (hz1 : -2000000 ≤ z) (hz2 : z ≤ 2000000) (hp : EC.PV A B (x, y, e)) (w : World) :
    Calls Try.prog 25 #[.agg #[.int .i64 A, .int .i64 B], .agg #[.int .i64 x, .int .i64 z, .int .i64 e], .int .i64 (-(N : Int))] w (Gives (mulV A (x, y, e) N) w) := by
  have HA := Lib.hid (fun u v t (h : EC.PV A B (u, v, t)) W => ptAdd_any A B u v t x y e hC h hp W)
  have HS := Lib.hid (fun u v t r (h : EC.PV A B (u, v, t)) (h2 : EC.sumO A (u, v, t) (x, y, e) = some r) => (EC.sumO_PV h hp h2).1)
  obtain ⟨R, hR⟩ : ∃ R, mulV A (x, y, e) N = R := ⟨_, rfl⟩
  rw [hR]
  have HR := Lib.hid hR
  clear hR hC hp
  have hNn : -(N : Int) < 0 := by omega
  have hw0 : IntKind.i64.wrap (-(-(N : Int))) = (N : Int) := by rw [IntWalk.i64_in _ (by omega)]; omega
  have HM := Lib.hid (fun W => ptMinusM_any x z e (by omega) (by omega) W)
  rw [← hz] at HM
  clear hz hz1 hz2
  go_enter Try.func25, Try.ntmps25
  go_wp2_with fail
  refine name_worldM (fun V hV => ?_)
  have Bc : Box V w.heap.size [.int .i64 A, .int .i64 B] := by subst hV; exact box_two (by first | omega | (simp; done) | (simp; omega)) (by simp [go_sem]) (by simp [go_sem]) (fun o => by simp [go_sem])
  have Bp : Box V (w.heap.size + 1) [.int .i64 x, .int .i64 z, .int .i64 e] := by subst hV; exact box_three (by first | omega | (simp; done) | (simp; omega)) (by simp [go_sem]) (by simp [go_sem]) (by simp [go_sem]) (fun o => by simp [go_sem])
  have Br : Box V (w.heap.size + 1 + 1) [.int .i64 0, .int .i64 0, .int .i64 0] := by subst hV; exact box_three (by first | omega | (simp; done) | (simp; omega)) (by simp [go_sem]) (by simp [go_sem]) (by simp [go_sem]) (fun o => by simp [go_sem])
  have hB : Below w.heap.size w V := by subst hV; exact (by repeat' (first | (with_reducible exact Below.refl _ _) | (with_reducible assumption) | (with_reducible refine Below.alloc ?_ ?_ _) | (with_reducible refine Below.setCell ?_ ?_ _) | (with_reducible refine Below.drew ?_) | (with_reducible refine below_drewN ?_ _) | (apply bthen2; (with_reducible assumption)) | go_size))
  clear hV
  refine (HM.out _).mono ?_
  rintro e9 wm ⟨rfl, hbm⟩
  have Bc := Bc.below hbm; have Bp := Bp.below hbm; have Br := Br.below hbm
  have hB := bthen2 hbm hB
  have c0 := Bc.2.1 0 _ rfl; have c1 := Bc.2.1 1 _ rfl; have cl := Bc.1
  have p0 := Bp.2.1 0 _ rfl; have p1 := Bp.2.1 1 _ rfl; have p2 := Bp.2.1 2 _ rfl; have pf := Bp.2.2; have pl := Bp.1
  have rl := Br.1
  clear HM hbm
  go_wp2_with fail
  refine name_world (fun W1 hW1 => ?_)
  have hsb : w.heap.size + 1 + 1 < wm.heap.size := rl
  obtain ⟨bn, hbn⟩ : ∃ bn, bn = wm.heap.size := ⟨_, rfl⟩
  have Bn : Box W1 wm.heap.size [.int .i64 0, .int .i64 0, .int .i64 0] := by subst hW1; exact box_three (by first | omega | (simp; done) | (simp; omega)) (by simp [go_sem]) (by simp [go_sem]) (by simp [go_sem]) (fun o => by simp [go_sem])
  have Bc : Box W1 w.heap.size [.int .i64 A, .int .i64 B] := by subst hW1; exact Box.alloc (Box.set_ne (Box.set_ne (Box.set_ne Bc (by first | (simp; done) | (simp; omega)) _) (by first | (simp; done) | (simp; omega)) _) (by first | (simp; done) | (simp; omega)) _) _
  have Br : Box W1 (w.heap.size + 1 + 1) [.int .i64 0, .int .i64 0, .int .i64 0] := by subst hW1; exact Box.alloc (Box.set_ne (Box.set_ne (Box.set_ne Br (by first | (simp; done) | (simp; omega)) _) (by first | (simp; done) | (simp; omega)) _) (by first | (simp; done) | (simp; omega)) _) _
  have Bp : Box W1 (w.heap.size + 1) [.int .i64 x, .int .i64 y, .int .i64 e] := by subst hW1; exact Box.alloc (Box.set (Box.set (Box.set Bp 0 (by simp) _) 1 (by simp) _) 2 (by simp) _) _
  have hB : Below w.heap.size w W1 := by subst hW1; exact (by repeat' (first | (with_reducible exact Below.refl _ _) | (with_reducible assumption) | (with_reducible refine Below.alloc ?_ ?_ _) | (with_reducible refine Below.setCell ?_ ?_ _) | (with_reducible refine Below.drew ?_) | (with_reducible refine below_drewN ?_ _) | (apply bthen2; (with_reducible assumption)) | go_size))
  clear hW1 c0 c1 cl p0 p1 p2 pf pl
  go_loopw [2] (fun v2 wr => ∃ (m : Int) (j : Nat) (u v t : Int), v2 = .int .i64 m ∧ 0 ≤ m ∧ m + j = N ∧ EC.PV A B (u, v, t) ∧ Hid (mulO A (x, y, e) j = some (u, v, t)) ∧ Box wr w.heap.size [.int .i64 A, .int .i64 B] ∧ Box wr (w.heap.size + 1) [.int .i64 x, .int .i64 y, .int .i64 e] ∧ Box wr (w.heap.size + 1 + 1) [.int .i64 0, .int .i64 0, .int .i64 0] ∧ Box wr wm.heap.size [.int .i64 u, .int .i64 v, .int .i64 t] ∧ Below w.heap.size w wr) (fun v2 _ => (intOf v2).toNat)
  case atStart => exact ⟨N, 0, 0, 0, 0, rfl, by omega, by omega, .inl rfl, Lib.hid rfl, Bc, Bp, Br, Bn, hB⟩
  case round =>
    clear Bc Bp Bn Br hB hNn hw0
    obtain ⟨m, j, u, v, t, rfl, hm0, hmj, hPV, HG, Bc, Bp, Br, Bn, hB⟩ := hrel
    have c0 := Bc.2.1 0 _ rfl; have c1 := Bc.2.1 1 _ rfl; have cl := Bc.1
    have p0 := Bp.2.1 0 _ rfl; have p1 := Bp.2.1 1 _ rfl; have p2 := Bp.2.1 2 _ rfl; have pl := Bp.1
    have n0 := Bn.2.1 0 _ rfl; have n1 := Bn.2.1 1 _ rfl; have n2 := Bn.2.1 2 _ rfl; have nf := Bn.2.2; have nl := Bn.1
    have r0 := Br.2.1 0 _ rfl; have r1 := Br.2.1 1 _ rfl; have r2 := Br.2.1 2 _ rfl; have rf := Br.2.2; have rl := Br.1
    by_cases hlt : 0 < m
    · have HAA := HA.out u v t hPV
      have hw1 : wrap64 (m - 1) = m - 1 := win (by omega)
      rcases hs : EC.sumO A (u, v, t) (x, y, e) with _ | ⟨a, b, c⟩
      · have h2 : mulO A (x, y, e) N = none := by
          have h3 : mulO A (x, y, e) (j + 1) = none := by rw [mulO_succ HG.out, hs]
          have := mulO_none h3 (N - (j + 1))
          rwa [show j + 1 + (N - (j + 1)) = N by omega] at this
        have HV := Lib.hid (show R = .tuple #[.agg #[.int .i64 0, .int .i64 0, .int .i64 0], .bool false] from by rw [← HR.out, mulV_none h2])
        rw [sumV_none hs] at HAA
        have HAA := Lib.hid HAA
        clear HG hs hPV HA HS HR h2
        go_wp2_with fail
        refine (HAA.out _).mono ?_
        rintro e9 wa ⟨rfl, hba⟩
        have hza := hba.size
        have Br2 := Br.below hba
        have s0 := Br2.2.1 0 _ rfl; have s1 := Br2.2.1 1 _ rfl; have s2 := Br2.2.1 2 _ rfl; have sf := Br2.2.2; have sl := Br2.1
        go_wp2_with fail
        refine bodyPost_ret (v := .tuple #[.agg #[.int .i64 0, .int .i64 0, .int .i64 0], .bool false]) (by simp [results, Try.results25, go_sem, s0, s1, s2, sf, sl]) rfl (gives HV.out.symm (by repeat' (first | (with_reducible exact Below.refl _ _) | (with_reducible assumption) | (with_reducible refine Below.alloc ?_ ?_ _) | (with_reducible refine Below.setCell ?_ ?_ _) | (with_reducible refine Below.drew ?_) | (with_reducible refine below_drewN ?_ _) | (apply bthen2; (with_reducible assumption)) | go_size)))
      · have hq := HS.out u v t _ hPV hs
        rw [sumV_some hs] at HAA
        have HAA := Lib.hid HAA
        have HG2 := Lib.hid ((mulO_succ HG.out).trans hs)
        clear HG hs hPV HA HS
        go_wp2_with fail
        refine (HAA.out _).mono ?_
        rintro e9 wa ⟨rfl, hba⟩
        have hza := hba.size
        have Bc2 := Bc.below hba; have Bp2 := Bp.below hba; have Bn2 := Bn.below hba; have Br2 := Br.below hba
        have q0 := Bn2.2.1 0 _ rfl; have q1 := Bn2.2.1 1 _ rfl; have q2 := Bn2.2.1 2 _ rfl; have qf := Bn2.2.2; have ql := Bn2.1
        go_wp2_with fail
        go_roundw
        case rel => exact ⟨m - 1, j + 1, a, b, c, rfl, by omega, by omega, hq, HG2, Box.alloc (Box.set_ne (Box.set_ne (Box.set_ne Bc2 (by first | (simp; done) | (simp; omega)) _) (by first | (simp; done) | (simp; omega)) _) (by first | (simp; done) | (simp; omega)) _) _, Box.alloc (Box.set_ne (Box.set_ne (Box.set_ne Bp2 (by first | (simp; done) | (simp; omega)) _) (by first | (simp; done) | (simp; omega)) _) (by first | (simp; done) | (simp; omega)) _) _, Box.alloc (Box.set_ne (Box.set_ne (Box.set_ne Br2 (by first | (simp; done) | (simp; omega)) _) (by first | (simp; done) | (simp; omega)) _) (by first | (simp; done) | (simp; omega)) _) _, Box.alloc (Box.set (Box.set (Box.set Bn2 0 (by simp) _) 1 (by simp) _) 2 (by simp) _) _, (by repeat' (first | (with_reducible exact Below.refl _ _) | (with_reducible assumption) | (with_reducible refine Below.alloc ?_ ?_ _) | (with_reducible refine Below.setCell ?_ ?_ _) | (with_reducible refine Below.drew ?_) | (with_reducible refine below_drewN ?_ _) | (apply bthen2; (with_reducible assumption)) | go_size))⟩
        case measure => simp [intOf]; omega
    · obtain rfl : j = N := by omega
      have HV := Lib.hid (show R = .tuple #[.agg #[.int .i64 u, .int .i64 v, .int .i64 t], .bool true] from by rw [← HR.out, mulV_some HG.out])
      clear HG hPV HA HS HR
      go_wp2_with fail
      refine bodyPost_ret (v := .tuple #[.agg #[.int .i64 u, .int .i64 v, .int .i64 t], .bool true]) (by simp [results, Try.results25, go_sem, r0, r1, r2, rf, rl]) rfl (gives HV.out.symm (by repeat' (first | (with_reducible exact Below.refl _ _) | (with_reducible assumption) | (with_reducible refine Below.alloc ?_ ?_ _) | (with_reducible refine Below.setCell ?_ ?_ _) | (with_reducible refine Below.drew ?_) | (with_reducible refine below_drewN ?_ _) | (apply bthen2; (with_reducible assumption)) | go_size)))
theorem yrng {A B x y e : Int} (hC : isC A B = true) (hp : EC.PV A B (x, y, e)) : -2000000 ≤ y ∧ y ≤ 2000000 := by
  obtain ⟨h1, h2, h3, h4, -⟩ := isC_ff hC
  have := (PV.rng ⟨h1, h2⟩ ⟨h3, h4⟩ hp).2.1
  simp only at this
  omega
/-- n times a point, for a number of either sign. -/
theorem ptTimesZ (A B x y e n : Int) (h1 : -1000000 ≤ n) (h2 : n ≤ 1000000) (hC : isC A B = true) (hp : EC.PV A B (x, y, e)) (w : World) :
    Calls Try.prog 25 #[.agg #[.int .i64 A, .int .i64 B], .agg #[.int .i64 x, .int .i64 y, .int .i64 e], .int .i64 n] w (Gives (mpT (mpO A (x, y, e) n)) w) := by
  unfold mpO
  split
  · have := ptTimes_negL A B x (-y) y e n.natAbs (by omega) (by omega) hC rfl (yrng hC hp).1 (yrng hC hp).2 (EC.opp_PV hp) w
    rw [show -((n.natAbs : Nat) : Int) = n by omega, mulV_T] at this
    exact this
  · have := ptTimes_any A B x y e n.natAbs (by omega) hC hp w
    rw [show ((n.natAbs : Nat) : Int) = n by omega, mulV_T] at this
    exact this

theorem ptB_PVM {a b x y e : Int} (h : ptB a b x y e = true) : isC a b = true ∧ EC.PV a b (x, y, e) := by
  unfold ptB at h
  simp only [Bool.and_eq_true, Bool.or_eq_true, decide_eq_true_eq, inB_iff] at h
  refine ⟨h.1, ?_⟩
  rcases h.2 with ⟨rfl, rfl, rfl⟩ | ⟨⟨⟨h1, h2⟩, h3⟩, h4⟩
  · exact .inl rfl
  · exact .inr ⟨h1.1, h1.2, h2.1, h2.2, h3, h4⟩
theorem PV_ptBM {a b x y e : Int} (hC : isC a b = true) (h : EC.PV a b (x, y, e)) : ptB a b x y e = true := by
  unfold ptB
  rw [hC, Bool.true_and]
  rcases h with h | ⟨h1, h2, h3, h4, h5, h6⟩
  · simp only [Prod.mk.injEq] at h
    simp [h.1, h.2.1, h.2.2]
  · simp only at h1 h2 h3 h4 h5 h6
    rw [inB_t h1 h2, inB_t h3 h4, decide_eq_true h5, decide_eq_true h6]
    simp

def itVM (a b x y e : Int) : Value := if ptB a b x y e then .tuple #[.bool (ordV a (x, y, e)).2, .bool true] else .tuple #[.bool false, .bool false]
set_option maxHeartbeats 4000000 in
theorem IsTorsionPoint_anyM (a b x y e : Int) (w : World) : Calls Try.prog 16 #[.agg #[.int .i64 a, .int .i64 b], .agg #[.int .i64 x, .int .i64 y, .int .i64 e]] w (Gives (itVM a b x y e) w) := by
  have HF := Lib.hid (fun w => isPoint_any a b x y e w)
  unfold itVM
  cases g1 : ptB a b x y e
  · rw [g1] at HF
    go_enter Try.func16, Try.ntmps16
    go_wp2_with (first | (go_at_call 19; refine (HF.out _).mono ?_; rintro e wa ⟨rfl, hba⟩; have hza := hba.size; (try simp only [World.size_alloc, World.size_setCell, World.size_drew, World.heap_drewN] at hza); try (refine keepc hba (w.heap.size) ?_ ?_; (focus (first | omega | (simp <;> omega))); intro hca_0 hfa_0 hla_0); try (refine keepc hba (w.heap.size + 1) ?_ ?_; (focus (first | omega | (simp <;> omega))); intro hca_1 hfa_1 hla_1); try (refine keepc hba (w.heap.size + 1 + 1) ?_ ?_; (focus (first | omega | (simp <;> omega))); intro hca_2 hfa_2 hla_2)))
    go_ret2
    exact gives rfl (by repeat' (first | (with_reducible exact Below.refl _ _) | (with_reducible assumption) | (with_reducible refine Below.alloc ?_ ?_ _) | (with_reducible refine Below.setCell ?_ ?_ _) | (with_reducible refine Below.drew ?_) | (with_reducible refine below_drewN ?_ _) | (apply bthen2; (with_reducible assumption)) | go_size))
  · obtain ⟨hC, hp⟩ := ptB_PVM g1
    rw [g1] at HF
    rw [if_pos rfl]
    have HT := Lib.hid (fun W => torsionPoints_any a b hC W)
    have HK := Lib.hid (fun ca cl cc W h => ContainsP_any x y e (tps a b) (by have := tps_len a b; omega) ca cl cc W h)
    have hm : decide ((x, y, e) ∈ tps a b) = (ordV a (x, y, e)).2 := by rw [Bool.eq_iff_iff, decide_eq_true_eq]; exact mem_tps hC hp
    rw [hm] at HK
    clear hm
    generalize tps a b = L at *
    generalize (ordV a (x, y, e)).2 = R at *
    clear hC hp g1
    go_enter Try.func16, Try.ntmps16
    go_wp2_with fail
    refine (HF.out _).mono ?_
    rintro e9 wa ⟨rfl, hba⟩
    have Bc := Box.below (show Box _ w.heap.size [.int .i64 a, .int .i64 b] from Box.alloc (box_made2 _ _ _ _) _) hba
    have Bp := Box.below (show Box _ (w.heap.size + 1) [.int .i64 x, .int .i64 y, .int .i64 e] from box_three (by simp) (by simp [go_sem]) (by simp [go_sem]) (by simp [go_sem]) (fun o => by simp [go_sem])) hba
    have hB : Below w.heap.size w wa := bthen2 hba (by repeat' (first | (with_reducible exact Below.refl _ _) | (with_reducible assumption) | (with_reducible refine Below.alloc ?_ ?_ _) | (with_reducible refine Below.setCell ?_ ?_ _) | (with_reducible refine Below.drew ?_) | (with_reducible refine below_drewN ?_ _) | (apply bthen2; (with_reducible assumption)) | go_size))
    have z0 := Bc.2.1 0 _ rfl; have z1 := Bc.2.1 1 _ rfl; have zl := Bc.1
    have y0 := Bp.2.1 0 _ rfl; have y1 := Bp.2.1 1 _ rfl; have y2 := Bp.2.1 2 _ rfl; have yl := Bp.1
    go_upto_region 3 with fail
    go_region_held3 (fun w' => Below wa.heap.size wa w' ∧ w'.cell? ⟨w.heap.size, 0, none⟩ = some (.int .i64 a) ∧ w'.cell? ⟨w.heap.size, 1, none⟩ = some (.int .i64 b) ∧ w'.cell? ⟨w.heap.size + 1, 0, none⟩ = some (.int .i64 x) ∧ w'.cell? ⟨w.heap.size + 1, 1, none⟩ = some (.int .i64 y) ∧ w'.cell? ⟨w.heap.size + 1, 2, none⟩ = some (.int .i64 e)) ((refine (fun hbK => And.intro hbK (by exact ⟨(hbK.cell (p := ⟨w.heap.size, 0, none⟩) (by first | assumption | omega | (simp; omega))).trans z0, (hbK.cell (p := ⟨w.heap.size, 1, none⟩) (by first | assumption | omega | (simp; omega))).trans z1, (hbK.cell (p := ⟨w.heap.size + 1, 0, none⟩) (by first | assumption | omega | (simp; omega))).trans y0, (hbK.cell (p := ⟨w.heap.size + 1, 1, none⟩) (by first | assumption | omega | (simp; omega))).trans y1, (hbK.cell (p := ⟨w.heap.size + 1, 2, none⟩) (by first | assumption | omega | (simp; omega))).trans y2⟩)) ?_; repeat' (first | (with_reducible exact Below.refl _ _) | (with_reducible assumption) | (with_reducible refine Below.alloc ?_ ?_ _) | (with_reducible refine Below.setCell ?_ ?_ _) | (with_reducible refine Below.drew ?_) | (with_reducible refine below_drewN ?_ _) | (apply bthen2; (with_reducible assumption)) | go_size))) ((first | (go_at_call 31; refine (HT.out _).mono ?_; rintro e9 wf ⟨a3, l3, c3, rfl, ho3, hbf⟩; have PT := ho3.pts) | (go_at_call 30; refine (HK.out _ _ _ _ ?_).mono ?_; (focus (refine PtsR.below PT ?_; repeat' (first | (with_reducible exact Below.refl _ _) | (with_reducible assumption) | (with_reducible refine Below.alloc ?_ ?_ _) | (with_reducible refine Below.setCell ?_ ?_ _) | (with_reducible refine Below.drew ?_) | (with_reducible refine below_drewN ?_ _) | (apply bthen2; (with_reducible assumption)) | go_size))); rintro e9 wg ⟨rfl, hbg⟩)))
    go_wp2_with fail
    go_ret2
    exact gives rfl (by apply bthen hB; repeat' (first | (with_reducible exact Below.refl _ _) | (with_reducible assumption) | (with_reducible refine Below.alloc ?_ ?_ _) | (with_reducible refine Below.setCell ?_ ?_ _) | (with_reducible refine Below.drew ?_) | (with_reducible refine below_drewN ?_ _) | (apply bthen2; (with_reducible assumption)) | go_size))

def opVM (a b x y e : Int) : Value := if ptB a b x y e then .tuple #[.int .i64 (ordV a (x, y, e)).1, .bool (ordV a (x, y, e)).2] else .tuple #[.int .i64 0, .bool false]
set_option maxHeartbeats 2000000 in
theorem OrderOfPoint_anyM (a b x y e : Int) (w : World) : Calls Try.prog 11 #[.agg #[.int .i64 a, .int .i64 b], .agg #[.int .i64 x, .int .i64 y, .int .i64 e]] w (Gives (opVM a b x y e) w) := by
  have HF := Lib.hid (fun w => isPoint_any a b x y e w)
  unfold opVM
  cases g1 : ptB a b x y e
  · rw [g1] at HF
    go_enter Try.func11, Try.ntmps11
    go_wp2_with (first | (go_at_call 19; refine (HF.out _).mono ?_; rintro e wa ⟨rfl, hba⟩; have hza := hba.size; (try simp only [World.size_alloc, World.size_setCell, World.size_drew, World.heap_drewN] at hza); try (refine keepc hba (w.heap.size) ?_ ?_; (focus (first | omega | (simp <;> omega))); intro hca_0 hfa_0 hla_0); try (refine keepc hba (w.heap.size + 1) ?_ ?_; (focus (first | omega | (simp <;> omega))); intro hca_1 hfa_1 hla_1); try (refine keepc hba (w.heap.size + 1 + 1) ?_ ?_; (focus (first | omega | (simp <;> omega))); intro hca_2 hfa_2 hla_2)))
    go_ret2
    exact gives rfl (by repeat' (first | (with_reducible exact Below.refl _ _) | (with_reducible assumption) | (with_reducible refine Below.alloc ?_ ?_ _) | (with_reducible refine Below.setCell ?_ ?_ _) | (with_reducible refine Below.drew ?_) | (with_reducible refine below_drewN ?_ _) | (apply bthen2; (with_reducible assumption)) | go_size))
  · obtain ⟨hC, hp⟩ := ptB_PVM g1
    rw [g1] at HF
    rw [if_pos rfl]
    have HO := Lib.hid (fun W => orderOfPoint_any a b x y e hC hp W)
    generalize ordV a (x, y, e) = R at *
    clear hC hp g1
    go_enter Try.func11, Try.ntmps11
    go_wp2_with fail
    refine (HF.out _).mono ?_
    rintro e wa ⟨rfl, hba⟩; have hza := hba.size; (try simp only [World.size_alloc, World.size_setCell, World.size_drew, World.heap_drewN] at hza); try (refine keepc hba (w.heap.size) ?_ ?_; (focus (first | omega | (simp <;> omega))); intro hca_0 hfa_0 hla_0); try (refine keepc hba (w.heap.size + 1) ?_ ?_; (focus (first | omega | (simp <;> omega))); intro hca_1 hfa_1 hla_1); try (refine keepc hba (w.heap.size + 1 + 1) ?_ ?_; (focus (first | omega | (simp <;> omega))); intro hca_2 hfa_2 hla_2)
    go_wp2_with fail
    refine (HO.out _).mono ?_
    rintro e wb ⟨rfl, hbb⟩; have hzb := hbb.size; (try simp only [World.size_alloc, World.size_setCell, World.size_drew, World.heap_drewN] at hzb); try (refine keepc hbb (w.heap.size) ?_ ?_; (focus (first | omega | (simp <;> omega))); intro hcb_0 hfb_0 hlb_0); try (refine keepc hbb (w.heap.size + 1) ?_ ?_; (focus (first | omega | (simp <;> omega))); intro hcb_1 hfb_1 hlb_1); try (refine keepc hbb (w.heap.size + 1 + 1) ?_ ?_; (focus (first | omega | (simp <;> omega))); intro hcb_2 hfb_2 hlb_2)
    go_wp2_with fail
    go_ret2
    exact gives rfl (by repeat' (first | (with_reducible exact Below.refl _ _) | (with_reducible assumption) | (with_reducible refine Below.alloc ?_ ?_ _) | (with_reducible refine Below.setCell ?_ ?_ _) | (with_reducible refine Below.drew ?_) | (with_reducible refine below_drewN ?_ _) | (apply bthen2; (with_reducible assumption)) | go_size))

set_option maxHeartbeats 2000000 in
theorem sMultiplePoint_any (a b x y e n : Int) (w : World) : Calls Try.prog 6 #[.agg #[.int .i64 a, .int .i64 b], .agg #[.int .i64 x, .int .i64 y, .int .i64 e], .int .i64 n] w (Gives (mpT (mpR a b x y e n)) w) := by
  have HF := Lib.hid (fun w => IsPointOf_any a b x y e w)
  have HI := Lib.hid (fun w => l1In_any n (-12) 12 w)
  unfold mpR
  cases g1 : ptB a b x y e
  · rw [g1] at HF
    go_enter Try.func6, Try.ntmps6
    go_wp2_with (first | (go_at_call 23; refine (HF.out _).mono ?_; rintro e wa ⟨rfl, hba⟩; have hza := hba.size; (try simp only [World.size_alloc, World.size_setCell, World.size_drew, World.heap_drewN] at hza); try (refine keepc hba (w.heap.size) ?_ ?_; (focus (first | omega | (simp <;> omega))); intro hca_0 hfa_0 hla_0); try (refine keepc hba (w.heap.size + 1) ?_ ?_; (focus (first | omega | (simp <;> omega))); intro hca_1 hfa_1 hla_1); try (refine keepc hba (w.heap.size + 1 + 1) ?_ ?_; (focus (first | omega | (simp <;> omega))); intro hca_2 hfa_2 hla_2)))
    refine bodyPost_ret (v := .tuple #[.agg #[.int .i64 0, .int .i64 0, .int .i64 0], .bool false]) (by simp [results, Try.results6, go_sem, *]) rfl (gives rfl (by repeat' (first | (with_reducible exact Below.refl _ _) | (with_reducible assumption) | (with_reducible refine Below.alloc ?_ ?_ _) | (with_reducible refine Below.setCell ?_ ?_ _) | (with_reducible refine Below.drew ?_) | (with_reducible refine below_drewN ?_ _) | (apply bthen2; (with_reducible assumption)) | go_size)))
  · cases g2 : inB n (-12) 12
    · rw [g1] at HF; rw [g2] at HI
      go_enter Try.func6, Try.ntmps6
      go_wp2_with (first | (go_at_call 23; refine (HF.out _).mono ?_; rintro e wa ⟨rfl, hba⟩; have hza := hba.size; (try simp only [World.size_alloc, World.size_setCell, World.size_drew, World.heap_drewN] at hza); try (refine keepc hba (w.heap.size) ?_ ?_; (focus (first | omega | (simp <;> omega))); intro hca_0 hfa_0 hla_0); try (refine keepc hba (w.heap.size + 1) ?_ ?_; (focus (first | omega | (simp <;> omega))); intro hca_1 hfa_1 hla_1); try (refine keepc hba (w.heap.size + 1 + 1) ?_ ?_; (focus (first | omega | (simp <;> omega))); intro hca_2 hfa_2 hla_2)) | (go_at_call 24; refine (HI.out _).mono ?_; rintro e w1 ⟨rfl, rfl⟩))
      refine bodyPost_ret (v := .tuple #[.agg #[.int .i64 0, .int .i64 0, .int .i64 0], .bool false]) (by simp [results, Try.results6, go_sem, *]) rfl (gives rfl (by repeat' (first | (with_reducible exact Below.refl _ _) | (with_reducible assumption) | (with_reducible refine Below.alloc ?_ ?_ _) | (with_reducible refine Below.setCell ?_ ?_ _) | (with_reducible refine Below.drew ?_) | (with_reducible refine below_drewN ?_ _) | (apply bthen2; (with_reducible assumption)) | go_size)))
    · obtain ⟨hC, hp⟩ := ptB_PVM g1
      have hn := inB_iff.1 g2
      rw [g1] at HF; rw [g2] at HI
      rw [if_pos (by rfl)]
      have HT := Lib.hid (fun W => ptTimesZ a b x y e n (by omega) (by omega) hC hp W)
      obtain ⟨u, v, t, ok, hr⟩ := mpT_f (mpO a (x, y, e) n)
      rw [hr] at HT ⊢
      clear hr hC hp g1 g2
      go_enter Try.func6, Try.ntmps6
      go_wp2_with (first | (go_at_call 23; refine (HF.out _).mono ?_; rintro e wa ⟨rfl, hba⟩; have hza := hba.size; (try simp only [World.size_alloc, World.size_setCell, World.size_drew, World.heap_drewN] at hza); try (refine keepc hba (w.heap.size) ?_ ?_; (focus (first | omega | (simp <;> omega))); intro hca_0 hfa_0 hla_0); try (refine keepc hba (w.heap.size + 1) ?_ ?_; (focus (first | omega | (simp <;> omega))); intro hca_1 hfa_1 hla_1); try (refine keepc hba (w.heap.size + 1 + 1) ?_ ?_; (focus (first | omega | (simp <;> omega))); intro hca_2 hfa_2 hla_2)) | (go_at_call 24; refine (HI.out _).mono ?_; rintro e w1 ⟨rfl, rfl⟩) | (go_at_call 25; refine (HT.out _).mono ?_; rintro e wb ⟨rfl, hbb⟩; have hzb := hbb.size; (try simp only [World.size_alloc, World.size_setCell, World.size_drew, World.heap_drewN] at hzb); try (refine keepc hbb (w.heap.size) ?_ ?_; (focus (first | omega | (simp <;> omega))); intro hcb_0 hfb_0 hlb_0); try (refine keepc hbb (w.heap.size + 1) ?_ ?_; (focus (first | omega | (simp <;> omega))); intro hcb_1 hfb_1 hlb_1); try (refine keepc hbb (w.heap.size + 1 + 1) ?_ ?_; (focus (first | omega | (simp <;> omega))); intro hcb_2 hfb_2 hlb_2)))
      refine bodyPost_ret (v := .tuple #[.agg #[.int .i64 u, .int .i64 v, .int .i64 t], .bool ok]) (by simp [results, Try.results6, go_sem, *]) rfl (gives rfl (by repeat' (first | (with_reducible exact Below.refl _ _) | (with_reducible assumption) | (with_reducible refine Below.alloc ?_ ?_ _) | (with_reducible refine Below.setCell ?_ ?_ _) | (with_reducible refine Below.drew ?_) | (with_reducible refine below_drewN ?_ _) | (apply bthen2; (with_reducible assumption)) | go_size)))

set_option maxHeartbeats 2000000 in
theorem sOrderOfPoint_any (a b x y e : Int) (w : World) : Calls Try.prog 12 #[.agg #[.int .i64 a, .int .i64 b], .agg #[.int .i64 x, .int .i64 y, .int .i64 e]] w (Gives (opVM a b x y e) w) := by
  have HF := Lib.hid (fun w => IsPointOf_any a b x y e w)
  unfold opVM
  cases g1 : ptB a b x y e
  · rw [g1] at HF
    go_enter Try.func12, Try.ntmps12
    go_wp2_with (first | (go_at_call 23; refine (HF.out _).mono ?_; rintro e wa ⟨rfl, hba⟩; have hza := hba.size; (try simp only [World.size_alloc, World.size_setCell, World.size_drew, World.heap_drewN] at hza); try (refine keepc hba (w.heap.size) ?_ ?_; (focus (first | omega | (simp <;> omega))); intro hca_0 hfa_0 hla_0); try (refine keepc hba (w.heap.size + 1) ?_ ?_; (focus (first | omega | (simp <;> omega))); intro hca_1 hfa_1 hla_1); try (refine keepc hba (w.heap.size + 1 + 1) ?_ ?_; (focus (first | omega | (simp <;> omega))); intro hca_2 hfa_2 hla_2)))
    go_ret2
    exact gives rfl (by repeat' (first | (with_reducible exact Below.refl _ _) | (with_reducible assumption) | (with_reducible refine Below.alloc ?_ ?_ _) | (with_reducible refine Below.setCell ?_ ?_ _) | (with_reducible refine Below.drew ?_) | (with_reducible refine below_drewN ?_ _) | (apply bthen2; (with_reducible assumption)) | go_size))
  · obtain ⟨hC, hp⟩ := ptB_PVM g1
    rw [g1] at HF
    rw [if_pos rfl]
    have HO := Lib.hid (fun W => ptOrder_any a b x y e hC hp W)
    generalize ordV a (x, y, e) = R at *
    clear hC hp g1
    go_enter Try.func12, Try.ntmps12
    go_wp2_with fail
    refine (HF.out _).mono ?_
    rintro e wa ⟨rfl, hba⟩; have hza := hba.size; (try simp only [World.size_alloc, World.size_setCell, World.size_drew, World.heap_drewN] at hza); try (refine keepc hba (w.heap.size) ?_ ?_; (focus (first | omega | (simp <;> omega))); intro hca_0 hfa_0 hla_0); try (refine keepc hba (w.heap.size + 1) ?_ ?_; (focus (first | omega | (simp <;> omega))); intro hca_1 hfa_1 hla_1); try (refine keepc hba (w.heap.size + 1 + 1) ?_ ?_; (focus (first | omega | (simp <;> omega))); intro hca_2 hfa_2 hla_2)
    go_wp2_with fail
    refine (HO.out _).mono ?_
    rintro e wb ⟨rfl, hbb⟩; have hzb := hbb.size; (try simp only [World.size_alloc, World.size_setCell, World.size_drew, World.heap_drewN] at hzb); try (refine keepc hbb (w.heap.size) ?_ ?_; (focus (first | omega | (simp <;> omega))); intro hcb_0 hfb_0 hlb_0); try (refine keepc hbb (w.heap.size + 1) ?_ ?_; (focus (first | omega | (simp <;> omega))); intro hcb_1 hfb_1 hlb_1); try (refine keepc hbb (w.heap.size + 1 + 1) ?_ ?_; (focus (first | omega | (simp <;> omega))); intro hcb_2 hfb_2 hlb_2)
    go_wp2_with fail
    go_ret2
    exact gives rfl (by repeat' (first | (with_reducible exact Below.refl _ _) | (with_reducible assumption) | (with_reducible refine Below.alloc ?_ ?_ _) | (with_reducible refine Below.setCell ?_ ?_ _) | (with_reducible refine Below.drew ?_) | (with_reducible refine below_drewN ?_ _) | (apply bthen2; (with_reducible assumption)) | go_size))

set_option maxHeartbeats 2000000 in
theorem iAddPoints_ok (a b x y e u v t : Int) {r : P3} (h1 : ptB a b x y e = true) (h2 : ptB a b u v t = true) (hr : EC.sumO a (x, y, e) (u, v, t) = some r) (w : World) :
    Calls Try.prog 15 #[.agg #[.int .i64 a, .int .i64 b], .agg #[.int .i64 x, .int .i64 y, .int .i64 e], .agg #[.int .i64 u, .int .i64 v, .int .i64 t]] w (Gives (.tuple #[.agg #[.int .i64 r.1, .int .i64 r.2.1, .int .i64 r.2.2], .bool true]) w) := by
  obtain ⟨hC, hp⟩ := ptB_PVM h1
  obtain ⟨-, hq⟩ := ptB_PVM h2
  have HA := Lib.hid (fun W => addPoints_any a b x y e u v t hC hp hq W)
  have HF := Lib.hid (fun w => isPoint_any a b x y e w)
  have HG := Lib.hid (fun w => isPoint_any a b u v t w)
  rw [h1] at HF; rw [h2] at HG
  obtain ⟨r1, r2, r3⟩ := r
  rw [sumV_some hr] at HA
  clear hC hp hq h1 h2 hr
  go_enter Try.func15, Try.ntmps15
  go_wp2_with fail
  refine (HF.out _).mono ?_
  rintro e wa ⟨rfl, hba⟩; have hza := hba.size; (try simp only [World.size_alloc, World.size_setCell, World.size_drew, World.heap_drewN] at hza); try (refine keepc hba (w.heap.size) ?_ ?_; (focus (first | omega | (simp <;> omega))); intro hca_0 hfa_0 hla_0); try (refine keepc hba (w.heap.size + 1) ?_ ?_; (focus (first | omega | (simp <;> omega))); intro hca_1 hfa_1 hla_1); try (refine keepc hba (w.heap.size + 1 + 1) ?_ ?_; (focus (first | omega | (simp <;> omega))); intro hca_2 hfa_2 hla_2); try (refine keepc hba (w.heap.size + 1 + 1 + 1) ?_ ?_; (focus (first | omega | (simp <;> omega))); intro hca_x0 hfa_x0 hla_x0)
  go_wp2_with fail
  refine (HG.out _).mono ?_
  rintro e wb ⟨rfl, hbb⟩; have hzb := hbb.size; (try simp only [World.size_alloc, World.size_setCell, World.size_drew, World.heap_drewN] at hzb); try (refine keepc hbb (w.heap.size) ?_ ?_; (focus (first | omega | (simp <;> omega))); intro hcb_0 hfb_0 hlb_0); try (refine keepc hbb (w.heap.size + 1) ?_ ?_; (focus (first | omega | (simp <;> omega))); intro hcb_1 hfb_1 hlb_1); try (refine keepc hbb (w.heap.size + 1 + 1) ?_ ?_; (focus (first | omega | (simp <;> omega))); intro hcb_2 hfb_2 hlb_2); try (refine keepc hbb (w.heap.size + 1 + 1 + 1) ?_ ?_; (focus (first | omega | (simp <;> omega))); intro hcb_x0 hfb_x0 hlb_x0)
  go_wp2_with fail
  refine (HA.out _).mono ?_
  rintro e wc ⟨rfl, hbc⟩; have hzc := hbc.size; (try simp only [World.size_alloc, World.size_setCell, World.size_drew, World.heap_drewN] at hzc); try (refine keepc hbc (w.heap.size) ?_ ?_; (focus (first | omega | (simp <;> omega))); intro hcc_0 hfc_0 hlc_0); try (refine keepc hbc (w.heap.size + 1) ?_ ?_; (focus (first | omega | (simp <;> omega))); intro hcc_1 hfc_1 hlc_1); try (refine keepc hbc (w.heap.size + 1 + 1) ?_ ?_; (focus (first | omega | (simp <;> omega))); intro hcc_2 hfc_2 hlc_2); try (refine keepc hbc (w.heap.size + 1 + 1 + 1) ?_ ?_; (focus (first | omega | (simp <;> omega))); intro hcc_x0 hfc_x0 hlc_x0)
  go_wp2_with fail
  refine bodyPost_ret (v := .tuple #[.agg #[.int .i64 r1, .int .i64 r2, .int .i64 r3], .bool true]) (by simp [results, Try.results15, go_sem, *]) rfl (gives rfl (by repeat' (first | (with_reducible exact Below.refl _ _) | (with_reducible assumption) | (with_reducible refine Below.alloc ?_ ?_ _) | (with_reducible refine Below.setCell ?_ ?_ _) | (with_reducible refine Below.drew ?_) | (with_reducible refine below_drewN ?_ _) | (apply bthen2; (with_reducible assumption)) | go_size)))

set_option maxRecDepth 100000 in
set_option maxHeartbeats 4000000 in
theorem qPoints_same (s t : Value) (ps : List P3) (w : World) (hs : PtsR w s ps) (ht : PtsR w t ps) : Calls Try.prog 13 #[s, t] w (Gives (.bool true) w) := by
  obtain ⟨a, cap, rfl, hl, hc⟩ := hs
  obtain ⟨a2, cap2, rfl, hl2, hc2⟩ := ht
  have HC := Lib.hid hc; have HC2 := Lib.hid hc2
  clear hc hc2
  go_enter Try.func13, Try.ntmps13
  go_wp2_with fail
  go_loopw [13] (fun v13 wr => ∃ k : Nat, v13 = .int .i64 k ∧ k ≤ ps.length ∧ Below w.heap.size w wr) (fun v13 _ => (ps.length - intOf v13).toNat)
  case atStart => exact ⟨0, rfl, by omega, Below.refl _ _⟩
  case round =>
    obtain ⟨k, rfl, hk, hbw⟩ := hrel
    by_cases hlt : k < ps.length
    · obtain ⟨⟨px, py, pe⟩, hp⟩ : ∃ p, ps[k]? = some p := ⟨_, List.getElem?_eq_getElem hlt⟩
      obtain ⟨b, off, ha, hbl, x0, x1, x2⟩ := HC.out k _ hp
      obtain ⟨b2, off2, ha2, hbl2, y0, y1, y2⟩ := HC2.out k _ hp
      subst ha; subst ha2
      simp only at x0 x1 x2 y0 y1 y2
      have e0 := (hbw.cell (p := ⟨b, _, none⟩) hbl).trans x0
      have e1 := (hbw.cell (p := ⟨b, _, none⟩) hbl).trans x1
      have e2 := (hbw.cell (p := ⟨b, _, none⟩) hbl).trans x2
      have f0 := (hbw.cell (p := ⟨b2, _, none⟩) hbl2).trans y0
      have f1 := (hbw.cell (p := ⟨b2, _, none⟩) hbl2).trans y1
      have f2 := (hbw.cell (p := ⟨b2, _, none⟩) hbl2).trans y2
      have hlt' : (k : Int) < (ps.length : Int) := by omega
      clear hp HC HC2 x0 x1 x2 y0 y1 y2
      go_wp2_with fail
      (try (go_quiet (fail); go_wp2_with fail))
      go_roundw
      case rel => exact ⟨k + 1, rfl, by omega, (by repeat' (first | (with_reducible exact Below.refl _ _) | (with_reducible assumption) | (with_reducible refine Below.alloc ?_ ?_ _) | (with_reducible refine Below.setCell ?_ ?_ _) | (with_reducible refine Below.drew ?_) | (with_reducible refine below_drewN ?_ _) | (apply bthen2; (with_reducible assumption)) | go_size))⟩
      case measure => simp [intOf]; omega
    · obtain rfl : k = ps.length := by omega
      go_wp2_with fail
      go_ret
      exact gives rfl (by repeat' (first | (with_reducible exact Below.refl _ _) | (with_reducible assumption) | (with_reducible refine Below.alloc ?_ ?_ _) | (with_reducible refine Below.setCell ?_ ?_ _) | (with_reducible refine Below.drew ?_) | (with_reducible refine below_drewN ?_ _) | (apply bthen2; (with_reducible assumption)) | go_size))
/-! ### MultiplePoint, MultiplesOf -/

set_option maxRecDepth 100000 in
set_option maxHeartbeats 4000000 in
theorem MultiplePoint_any (a b x y e n : Int) (w : World) : Calls Try.prog 5 #[.agg #[.int .i64 a, .int .i64 b], .agg #[.int .i64 x, .int .i64 y, .int .i64 e], .int .i64 n] w (Gives (mpT (mpR a b x y e n)) w) := by
  have HF := Lib.hid (fun w => isPoint_any a b x y e w)
  have HI := Lib.hid (fun w => inside_any n (-12) 12 w)
  unfold mpR
  cases g1 : ptB a b x y e
  · rw [g1] at HF
    go_enter Try.func5, Try.ntmps5
    go_wp2_with (first | (go_at_call 19; refine (HF.out _).mono ?_; rintro e wa ⟨rfl, hba⟩; have hza := hba.size; (try simp only [World.size_alloc, World.size_setCell, World.size_drew, World.heap_drewN] at hza); try (refine keepc hba (w.heap.size) ?_ ?_; (focus (first | omega | (simp <;> omega))); intro hca_0 hfa_0 hla_0); try (refine keepc hba (w.heap.size + 1) ?_ ?_; (focus (first | omega | (simp <;> omega))); intro hca_1 hfa_1 hla_1); try (refine keepc hba (w.heap.size + 1 + 1) ?_ ?_; (focus (first | omega | (simp <;> omega))); intro hca_2 hfa_2 hla_2)))
    refine bodyPost_ret (v := .tuple #[.agg #[.int .i64 0, .int .i64 0, .int .i64 0], .bool false]) (by simp [results, Try.results5, go_sem, *]) rfl (gives rfl (by repeat' (first | (with_reducible exact Below.refl _ _) | (with_reducible assumption) | (with_reducible refine Below.alloc ?_ ?_ _) | (with_reducible refine Below.setCell ?_ ?_ _) | (with_reducible refine Below.drew ?_) | (with_reducible refine below_drewN ?_ _) | (apply bthen2; (with_reducible assumption)) | go_size)))
  · cases g2 : inB n (-12) 12
    · rw [g1] at HF; rw [g2] at HI
      go_enter Try.func5, Try.ntmps5
      go_wp2_with (first | (go_at_call 19; refine (HF.out _).mono ?_; rintro e wa ⟨rfl, hba⟩; have hza := hba.size; (try simp only [World.size_alloc, World.size_setCell, World.size_drew, World.heap_drewN] at hza); try (refine keepc hba (w.heap.size) ?_ ?_; (focus (first | omega | (simp <;> omega))); intro hca_0 hfa_0 hla_0); try (refine keepc hba (w.heap.size + 1) ?_ ?_; (focus (first | omega | (simp <;> omega))); intro hca_1 hfa_1 hla_1); try (refine keepc hba (w.heap.size + 1 + 1) ?_ ?_; (focus (first | omega | (simp <;> omega))); intro hca_2 hfa_2 hla_2)) | (go_at_call 20; refine (HI.out _).mono ?_; rintro e w1 ⟨rfl, rfl⟩))
      refine bodyPost_ret (v := .tuple #[.agg #[.int .i64 0, .int .i64 0, .int .i64 0], .bool false]) (by simp [results, Try.results5, go_sem, *]) rfl (gives rfl (by repeat' (first | (with_reducible exact Below.refl _ _) | (with_reducible assumption) | (with_reducible refine Below.alloc ?_ ?_ _) | (with_reducible refine Below.setCell ?_ ?_ _) | (with_reducible refine Below.drew ?_) | (with_reducible refine below_drewN ?_ _) | (apply bthen2; (with_reducible assumption)) | go_size)))
    · obtain ⟨hC, hp⟩ := ptB_PVM g1
      have hn := inB_iff.1 g2
      rw [g1] at HF; rw [g2] at HI
      rw [if_pos (by rfl)]
      by_cases hneg : n < 0
      · have hN0 : ((n.natAbs : Nat) : Int) = (-n) := by omega
        have HM := Lib.hid (fun W => multiples_any a b x (-y) e n.natAbs (by omega) hC (EC.opp_PV hp) W)
        rw [hN0] at HM
        have HR := Lib.hid (show mpO a (x, y, e) n = mulO a (x, -y, e) n.natAbs from by unfold mpO; rw [if_pos hneg]; rfl)
        have HFU := Lib.hid (fun r (h : mulO a (x, -y, e) n.natAbs = some r) => mlL_full (A := a) (p := (x, -y, e)) h)
        rw [HR.out]
        have HO := Lib.hid (fun W => opposite_any x y e (by have := (yrng hC hp).1; omega) (by have := (yrng hC hp).2; omega) W)
        have hwn : IntKind.i64.wrap (-n) = -n := IntWalk.i64_in _ (by omega)
        have hlt0 : decide (n < 0) = true := by simpa using hneg
        obtain ⟨nn, hnn⟩ : ∃ nn, nn = n.natAbs := ⟨_, rfl⟩
        rw [← hnn] at HM HFU hN0 ⊢
        clear HR hnn
        generalize hML : mulO a (x, -y, e) nn = M at *
        have HML := Lib.hid hML
        clear hC hp g1 g2 hML
        go_enter Try.func5, Try.ntmps5
        go_wp2_with fail
        refine name_worldM (fun V hV => ?_)
        have Bc : Box V w.heap.size [.int .i64 a, .int .i64 b] := by subst hV; exact box_two (by first | omega | (simp; done) | (simp; omega)) (by simp [go_sem]) (by simp [go_sem]) (fun o => by simp [go_sem])
        have Bp : Box V (w.heap.size + 1) [.int .i64 x, .int .i64 y, .int .i64 e] := by subst hV; exact box_three (by first | omega | (simp; done) | (simp; omega)) (by simp [go_sem]) (by simp [go_sem]) (by simp [go_sem]) (fun o => by simp [go_sem])
        have Br : Box V (w.heap.size + 1 + 1) [.int .i64 0, .int .i64 0, .int .i64 0] := by subst hV; exact box_three (by first | omega | (simp; done) | (simp; omega)) (by simp [go_sem]) (by simp [go_sem]) (by simp [go_sem]) (fun o => by simp [go_sem])
        have hB : Below w.heap.size w V := by subst hV; exact (by repeat' (first | (with_reducible exact Below.refl _ _) | (with_reducible assumption) | (with_reducible refine Below.alloc ?_ ?_ _) | (with_reducible refine Below.setCell ?_ ?_ _) | (with_reducible refine Below.drew ?_) | (with_reducible refine below_drewN ?_ _) | (apply bthen2; (with_reducible assumption)) | go_size))
        clear hV
        refine (HF.out _).mono ?_; rintro e9 wa ⟨rfl, hba⟩
        replace Bc := Bc.below hba; replace Bp := Bp.below hba; replace Br := Br.below hba; replace hB := bthen2 hba hB; clear hba HF
        have c0 := Bc.2.1 0 _ rfl; have c1 := Bc.2.1 1 _ rfl; have cl := Bc.1
        have p0 := Bp.2.1 0 _ rfl; have p1 := Bp.2.1 1 _ rfl; have p2 := Bp.2.1 2 _ rfl; have pf := Bp.2.2; have pl := Bp.1
        have r0 := Br.2.1 0 _ rfl; have r1 := Br.2.1 1 _ rfl; have r2 := Br.2.1 2 _ rfl; have rf := Br.2.2; have rl := Br.1
        go_wp2_with fail
        refine (HI.out _).mono ?_; rintro e9 wq ⟨rfl, rfl⟩
        clear HI
        go_wp2_with fail
        refine (HO.out _).mono ?_; rintro e9 wb ⟨rfl, hbb⟩
        clear c0 c1 cl p0 p1 p2 pf pl r0 r1 r2 rf rl
        replace Bc := Bc.below hbb; replace Bp := Bp.below hbb; replace Br := Br.below hbb; replace hB := bthen2 hbb hB; clear hbb HO
        have c0 := Bc.2.1 0 _ rfl; have c1 := Bc.2.1 1 _ rfl; have cl := Bc.1
        have p0 := Bp.2.1 0 _ rfl; have p1 := Bp.2.1 1 _ rfl; have p2 := Bp.2.1 2 _ rfl; have pf := Bp.2.2; have pl := Bp.1
        have r0 := Br.2.1 0 _ rfl; have r1 := Br.2.1 1 _ rfl; have r2 := Br.2.1 2 _ rfl; have rf := Br.2.2; have rl := Br.1
        go_wp2_with fail
        refine name_worldM (fun V2 hV => ?_)
        have X1 : Box V2 w.heap.size [.int .i64 a, .int .i64 b] := by subst hV; exact Box.set_ne (Box.set_ne (Box.set_ne Bc (by first | (simp; done) | (simp; omega)) _) (by first | (simp; done) | (simp; omega)) _) (by first | (simp; done) | (simp; omega)) _
        have X3 : Box V2 (w.heap.size + 1 + 1) [.int .i64 0, .int .i64 0, .int .i64 0] := by subst hV; exact Box.set_ne (Box.set_ne (Box.set_ne Br (by first | (simp; done) | (simp; omega)) _) (by first | (simp; done) | (simp; omega)) _) (by first | (simp; done) | (simp; omega)) _
        have X4 : Below w.heap.size w V2 := by subst hV; exact (by repeat' (first | (with_reducible exact Below.refl _ _) | (with_reducible assumption) | (with_reducible refine Below.alloc ?_ ?_ _) | (with_reducible refine Below.setCell ?_ ?_ _) | (with_reducible refine Below.drew ?_) | (with_reducible refine below_drewN ?_ _) | (apply bthen2; (with_reducible assumption)) | go_size))
        clear c0 c1 cl p0 p1 p2 pf pl r0 r1 r2 rf rl
        clear hV Bc Bp Br hB
        have Br := X3; have hB := X4
        clear X1 X3 X4
        refine (HM.out _).mono ?_; rintro e9 wc ⟨hml, hbc⟩
        replace Br := Br.below hbc; replace hB := bthen2 hbc hB
        clear HM hbc
        have r0 := Br.2.1 0 _ rfl; have r1 := Br.2.1 1 _ rfl; have r2 := Br.2.1 2 _ rfl; have rf := Br.2.2; have rl := Br.1
        rw [HML.out] at hml
        rcases hml with ⟨hno, rfl⟩ | ⟨hyes, la, ll, lc, rfl, own⟩
        · subst hno
          clear HML HFU
          go_wp2_with fail
          refine bodyPost_ret (v := .tuple #[.agg #[.int .i64 0, .int .i64 0, .int .i64 0], .bool false]) (by simp [results, Try.results5, go_sem, rf, rl, r0, r1, r2]) rfl (gives rfl (by repeat' (first | (with_reducible exact Below.refl _ _) | (with_reducible assumption) | (with_reducible refine Below.alloc ?_ ?_ _) | (with_reducible refine Below.setCell ?_ ?_ _) | (with_reducible refine Below.drew ?_) | (with_reducible refine below_drewN ?_ _) | (apply bthen2; (with_reducible assumption)) | go_size)))
        · obtain ⟨⟨u, v, t⟩, rfl⟩ : ∃ r, M = some r := by cases M with | none => exact absurd rfl hyes | some r => exact ⟨r, rfl⟩
          obtain ⟨f1, f2⟩ := HFU.out _ rfl
          have hget := f2 (nn - 1) (by omega)
          rw [show nn - 1 + 1 = nn by omega, HML.out] at hget
          clear HML HFU f2 hyes
          have hpts := own.pts
          generalize mlL a (x, -y, e) nn = L at *
          obtain ⟨la2, lc2, hsl, hll, hcells⟩ := hpts
          obtain ⟨rfl, rfl, rfl⟩ : la = la2 ∧ ll = L.length ∧ lc = lc2 := by simpa using hsl
          obtain ⟨b8, off8, ha, hbl, x0, x1, x2⟩ := hcells _ _ hget
          subst ha
          obtain ⟨k, hk⟩ : ∃ k, k = nn - 1 := ⟨_, rfl⟩
          rw [← hk] at x0 x1 x2
          have kz : (-n == 0) = false := by simp; omega
          have kz2 : decide (-n = 0) = false := by simp; omega
          have kw : IntKind.i64.wrap (-n - 1) = (k : Int) := by rw [IntWalk.i64_in _ (by omega)]; omega
          have kl : (k : Int) < (L.length : Int) := by omega
          have kl0 : (0 : Int) ≤ (k : Int) := by omega
          clear hcells hsl hget own hk f1
          go_wp2_with fail
          refine bodyPost_ret (v := .tuple #[.agg #[.int .i64 u, .int .i64 v, .int .i64 t], .bool true]) (by simp [results, Try.results5, go_sem, rf, rl, r0, r1, r2]) rfl (gives rfl (by repeat' (first | (with_reducible exact Below.refl _ _) | (with_reducible assumption) | (with_reducible refine Below.alloc ?_ ?_ _) | (with_reducible refine Below.setCell ?_ ?_ _) | (with_reducible refine Below.drew ?_) | (with_reducible refine below_drewN ?_ _) | (apply bthen2; (with_reducible assumption)) | go_size)))
      · by_cases hzero : n = 0
        · subst hzero
          have hN0 : (((0 : Int).natAbs : Nat) : Int) = 0 := by omega
          have HM := Lib.hid (fun W => multiples_any a b x y e (0 : Int).natAbs (by omega) hC hp W)
          rw [hN0] at HM
          have HR := Lib.hid (show mpO a (x, y, e) 0 = mulO a (x, y, e) (0 : Int).natAbs from by unfold mpO; rw [if_neg hneg])
          have HFU := Lib.hid (fun r (h : mulO a (x, y, e) (0 : Int).natAbs = some r) => mlL_full (A := a) (p := (x, y, e)) h)
          rw [HR.out]
          have hlt0 : decide (0 < 0) = false := by simp
          obtain ⟨nn, hnn⟩ : ∃ nn, nn = (0 : Int).natAbs := ⟨_, rfl⟩
          rw [← hnn] at HM HFU hN0 ⊢
          clear HR hnn
          generalize hML : mulO a (x, y, e) nn = M at *
          have HML := Lib.hid hML
          clear hC hp g1 g2 hML
          go_enter Try.func5, Try.ntmps5
          go_wp2_with fail
          refine name_worldM (fun V hV => ?_)
          have Bc : Box V w.heap.size [.int .i64 a, .int .i64 b] := by subst hV; exact box_two (by first | omega | (simp; done) | (simp; omega)) (by simp [go_sem]) (by simp [go_sem]) (fun o => by simp [go_sem])
          have Bp : Box V (w.heap.size + 1) [.int .i64 x, .int .i64 y, .int .i64 e] := by subst hV; exact box_three (by first | omega | (simp; done) | (simp; omega)) (by simp [go_sem]) (by simp [go_sem]) (by simp [go_sem]) (fun o => by simp [go_sem])
          have Br : Box V (w.heap.size + 1 + 1) [.int .i64 0, .int .i64 0, .int .i64 0] := by subst hV; exact box_three (by first | omega | (simp; done) | (simp; omega)) (by simp [go_sem]) (by simp [go_sem]) (by simp [go_sem]) (fun o => by simp [go_sem])
          have hB : Below w.heap.size w V := by subst hV; exact (by repeat' (first | (with_reducible exact Below.refl _ _) | (with_reducible assumption) | (with_reducible refine Below.alloc ?_ ?_ _) | (with_reducible refine Below.setCell ?_ ?_ _) | (with_reducible refine Below.drew ?_) | (with_reducible refine below_drewN ?_ _) | (apply bthen2; (with_reducible assumption)) | go_size))
          clear hV
          refine (HF.out _).mono ?_; rintro e9 wa ⟨rfl, hba⟩
          replace Bc := Bc.below hba; replace Bp := Bp.below hba; replace Br := Br.below hba; replace hB := bthen2 hba hB; clear hba HF
          have c0 := Bc.2.1 0 _ rfl; have c1 := Bc.2.1 1 _ rfl; have cl := Bc.1
          have p0 := Bp.2.1 0 _ rfl; have p1 := Bp.2.1 1 _ rfl; have p2 := Bp.2.1 2 _ rfl; have pf := Bp.2.2; have pl := Bp.1
          have r0 := Br.2.1 0 _ rfl; have r1 := Br.2.1 1 _ rfl; have r2 := Br.2.1 2 _ rfl; have rf := Br.2.2; have rl := Br.1
          go_wp2_with fail
          refine (HI.out _).mono ?_; rintro e9 wq ⟨rfl, rfl⟩
          clear HI
          go_wp2_with fail
          refine (HM.out _).mono ?_; rintro e9 wc ⟨hml, hbc⟩
          replace Br := Br.below hbc; replace hB := bthen2 hbc hB
          clear c0 c1 cl p0 p1 p2 pf pl r0 r1 r2 rf rl
          clear Bc Bp
          clear HM hbc
          have r0 := Br.2.1 0 _ rfl; have r1 := Br.2.1 1 _ rfl; have r2 := Br.2.1 2 _ rfl; have rf := Br.2.2; have rl := Br.1
          rw [HML.out] at hml
          rcases hml with ⟨hno, rfl⟩ | ⟨hyes, la, ll, lc, rfl, own⟩
          · subst hno
            clear HML HFU
            go_wp2_with fail
            refine bodyPost_ret (v := .tuple #[.agg #[.int .i64 0, .int .i64 0, .int .i64 0], .bool false]) (by simp [results, Try.results5, go_sem, rf, rl, r0, r1, r2]) rfl (gives rfl (by repeat' (first | (with_reducible exact Below.refl _ _) | (with_reducible assumption) | (with_reducible refine Below.alloc ?_ ?_ _) | (with_reducible refine Below.setCell ?_ ?_ _) | (with_reducible refine Below.drew ?_) | (with_reducible refine below_drewN ?_ _) | (apply bthen2; (with_reducible assumption)) | go_size)))
          · have hM0 : M = some (0, 0, 0) := by rw [← HML.out, show nn = 0 by omega]; rfl
            subst hM0
            clear HML HFU own
            go_wp2_with fail
            refine bodyPost_ret (v := .tuple #[.agg #[.int .i64 0, .int .i64 0, .int .i64 0], .bool true]) (by simp [results, Try.results5, go_sem, rf, rl, r0, r1, r2]) rfl (gives rfl (by repeat' (first | (with_reducible exact Below.refl _ _) | (with_reducible assumption) | (with_reducible refine Below.alloc ?_ ?_ _) | (with_reducible refine Below.setCell ?_ ?_ _) | (with_reducible refine Below.drew ?_) | (with_reducible refine below_drewN ?_ _) | (apply bthen2; (with_reducible assumption)) | go_size)))
        · have hN0 : ((n.natAbs : Nat) : Int) = n := by omega
          have HM := Lib.hid (fun W => multiples_any a b x y e n.natAbs (by omega) hC hp W)
          rw [hN0] at HM
          have HR := Lib.hid (show mpO a (x, y, e) n = mulO a (x, y, e) n.natAbs from by unfold mpO; rw [if_neg hneg])
          have HFU := Lib.hid (fun r (h : mulO a (x, y, e) n.natAbs = some r) => mlL_full (A := a) (p := (x, y, e)) h)
          rw [HR.out]
          have hlt0 : decide (n < 0) = false := by simpa using hneg
          obtain ⟨nn, hnn⟩ : ∃ nn, nn = n.natAbs := ⟨_, rfl⟩
          rw [← hnn] at HM HFU hN0 ⊢
          clear HR hnn
          generalize hML : mulO a (x, y, e) nn = M at *
          have HML := Lib.hid hML
          clear hC hp g1 g2 hML
          go_enter Try.func5, Try.ntmps5
          go_wp2_with fail
          refine name_worldM (fun V hV => ?_)
          have Bc : Box V w.heap.size [.int .i64 a, .int .i64 b] := by subst hV; exact box_two (by first | omega | (simp; done) | (simp; omega)) (by simp [go_sem]) (by simp [go_sem]) (fun o => by simp [go_sem])
          have Bp : Box V (w.heap.size + 1) [.int .i64 x, .int .i64 y, .int .i64 e] := by subst hV; exact box_three (by first | omega | (simp; done) | (simp; omega)) (by simp [go_sem]) (by simp [go_sem]) (by simp [go_sem]) (fun o => by simp [go_sem])
          have Br : Box V (w.heap.size + 1 + 1) [.int .i64 0, .int .i64 0, .int .i64 0] := by subst hV; exact box_three (by first | omega | (simp; done) | (simp; omega)) (by simp [go_sem]) (by simp [go_sem]) (by simp [go_sem]) (fun o => by simp [go_sem])
          have hB : Below w.heap.size w V := by subst hV; exact (by repeat' (first | (with_reducible exact Below.refl _ _) | (with_reducible assumption) | (with_reducible refine Below.alloc ?_ ?_ _) | (with_reducible refine Below.setCell ?_ ?_ _) | (with_reducible refine Below.drew ?_) | (with_reducible refine below_drewN ?_ _) | (apply bthen2; (with_reducible assumption)) | go_size))
          clear hV
          refine (HF.out _).mono ?_; rintro e9 wa ⟨rfl, hba⟩
          replace Bc := Bc.below hba; replace Bp := Bp.below hba; replace Br := Br.below hba; replace hB := bthen2 hba hB; clear hba HF
          have c0 := Bc.2.1 0 _ rfl; have c1 := Bc.2.1 1 _ rfl; have cl := Bc.1
          have p0 := Bp.2.1 0 _ rfl; have p1 := Bp.2.1 1 _ rfl; have p2 := Bp.2.1 2 _ rfl; have pf := Bp.2.2; have pl := Bp.1
          have r0 := Br.2.1 0 _ rfl; have r1 := Br.2.1 1 _ rfl; have r2 := Br.2.1 2 _ rfl; have rf := Br.2.2; have rl := Br.1
          go_wp2_with fail
          refine (HI.out _).mono ?_; rintro e9 wq ⟨rfl, rfl⟩
          clear HI
          go_wp2_with fail
          refine (HM.out _).mono ?_; rintro e9 wc ⟨hml, hbc⟩
          replace Br := Br.below hbc; replace hB := bthen2 hbc hB
          clear c0 c1 cl p0 p1 p2 pf pl r0 r1 r2 rf rl
          clear Bc Bp
          clear HM hbc
          have r0 := Br.2.1 0 _ rfl; have r1 := Br.2.1 1 _ rfl; have r2 := Br.2.1 2 _ rfl; have rf := Br.2.2; have rl := Br.1
          rw [HML.out] at hml
          rcases hml with ⟨hno, rfl⟩ | ⟨hyes, la, ll, lc, rfl, own⟩
          · subst hno
            clear HML HFU
            go_wp2_with fail
            refine bodyPost_ret (v := .tuple #[.agg #[.int .i64 0, .int .i64 0, .int .i64 0], .bool false]) (by simp [results, Try.results5, go_sem, rf, rl, r0, r1, r2]) rfl (gives rfl (by repeat' (first | (with_reducible exact Below.refl _ _) | (with_reducible assumption) | (with_reducible refine Below.alloc ?_ ?_ _) | (with_reducible refine Below.setCell ?_ ?_ _) | (with_reducible refine Below.drew ?_) | (with_reducible refine below_drewN ?_ _) | (apply bthen2; (with_reducible assumption)) | go_size)))
          · obtain ⟨⟨u, v, t⟩, rfl⟩ : ∃ r, M = some r := by cases M with | none => exact absurd rfl hyes | some r => exact ⟨r, rfl⟩
            obtain ⟨f1, f2⟩ := HFU.out _ rfl
            have hget := f2 (nn - 1) (by omega)
            rw [show nn - 1 + 1 = nn by omega, HML.out] at hget
            clear HML HFU f2 hyes
            have hpts := own.pts
            generalize mlL a (x, y, e) nn = L at *
            obtain ⟨la2, lc2, hsl, hll, hcells⟩ := hpts
            obtain ⟨rfl, rfl, rfl⟩ : la = la2 ∧ ll = L.length ∧ lc = lc2 := by simpa using hsl
            obtain ⟨b8, off8, ha, hbl, x0, x1, x2⟩ := hcells _ _ hget
            subst ha
            obtain ⟨k, hk⟩ : ∃ k, k = nn - 1 := ⟨_, rfl⟩
            rw [← hk] at x0 x1 x2
            have kz : (n == 0) = false := by simp; omega
            have kz2 : decide (n = 0) = false := by simp; omega
            have kw : IntKind.i64.wrap (n - 1) = (k : Int) := by rw [IntWalk.i64_in _ (by omega)]; omega
            have kl : (k : Int) < (L.length : Int) := by omega
            have kl0 : (0 : Int) ≤ (k : Int) := by omega
            clear hcells hsl hget own hk f1
            go_wp2_with fail
            refine bodyPost_ret (v := .tuple #[.agg #[.int .i64 u, .int .i64 v, .int .i64 t], .bool true]) (by simp [results, Try.results5, go_sem, rf, rl, r0, r1, r2]) rfl (gives rfl (by repeat' (first | (with_reducible exact Below.refl _ _) | (with_reducible assumption) | (with_reducible refine Below.alloc ?_ ?_ _) | (with_reducible refine Below.setCell ?_ ?_ _) | (with_reducible refine Below.drew ?_) | (with_reducible refine below_drewN ?_ _) | (apply bthen2; (with_reducible assumption)) | go_size)))

def moOk (a b x y e n : Int) : Bool := ptB a b x y e && inB n 1 12 && (mulO a (x, y, e) n.toNat).isSome
def moL (a b x y e n : Int) : List P3 := if moOk a b x y e n then mlL a (x, y, e) n.toNat else []
theorem moNo {a b x y e n : Int} (h : moOk a b x y e n = false) : moL a b x y e n = [] := by unfold moL; simp [h]

set_option maxHeartbeats 4000000 in
theorem MultiplesOf_any (a b x y e n : Int) (w : World) : Calls Try.prog 8 #[.agg #[.int .i64 a, .int .i64 b], .agg #[.int .i64 x, .int .i64 y, .int .i64 e], .int .i64 n] w (GivesPB (moL a b x y e n) (moOk a b x y e n) w) := by
  have HF := Lib.hid (fun w => isPoint_any a b x y e w)
  have HI := Lib.hid (fun w => inside_any n 1 12 w)
  cases g1 : ptB a b x y e
  · have g3 : moOk a b x y e n = false := by unfold moOk; simp [g1]
    rw [moNo g3, g3]
    rw [g1] at HF
    clear g3
    go_enter Try.func8, Try.ntmps8
    go_wp2_with (first | (go_at_call 19; refine (HF.out _).mono ?_; rintro e wa ⟨rfl, hba⟩; have hza := hba.size; (try simp only [World.size_alloc, World.size_setCell, World.size_drew, World.heap_drewN] at hza); try (refine keepc hba (w.heap.size) ?_ ?_; (focus (first | omega | (simp <;> omega))); intro hca_0 hfa_0 hla_0); try (refine keepc hba (w.heap.size + 1) ?_ ?_; (focus (first | omega | (simp <;> omega))); intro hca_1 hfa_1 hla_1); try (refine keepc hba (w.heap.size + 1 + 1) ?_ ?_; (focus (first | omega | (simp <;> omega))); intro hca_2 hfa_2 hla_2)))
    go_ret2
    exact ⟨none, 0, 0, rfl, OwnP.nil _ _, (by repeat' (first | (with_reducible exact Below.refl _ _) | (with_reducible assumption) | (with_reducible refine Below.alloc ?_ ?_ _) | (with_reducible refine Below.setCell ?_ ?_ _) | (with_reducible refine Below.drew ?_) | (with_reducible refine below_drewN ?_ _) | (apply bthen2; (with_reducible assumption)) | go_size))⟩
  · cases g2 : inB n 1 12
    · have g3 : moOk a b x y e n = false := by unfold moOk; simp [g2]
      rw [moNo g3, g3]
      rw [g1] at HF; rw [g2] at HI
      clear g3
      go_enter Try.func8, Try.ntmps8
      go_wp2_with (first | (go_at_call 19; refine (HF.out _).mono ?_; rintro e wa ⟨rfl, hba⟩; have hza := hba.size; (try simp only [World.size_alloc, World.size_setCell, World.size_drew, World.heap_drewN] at hza); try (refine keepc hba (w.heap.size) ?_ ?_; (focus (first | omega | (simp <;> omega))); intro hca_0 hfa_0 hla_0); try (refine keepc hba (w.heap.size + 1) ?_ ?_; (focus (first | omega | (simp <;> omega))); intro hca_1 hfa_1 hla_1); try (refine keepc hba (w.heap.size + 1 + 1) ?_ ?_; (focus (first | omega | (simp <;> omega))); intro hca_2 hfa_2 hla_2)) | (go_at_call 20; refine (HI.out _).mono ?_; rintro e w1 ⟨rfl, rfl⟩))
      go_ret2
      exact ⟨none, 0, 0, rfl, OwnP.nil _ _, (by repeat' (first | (with_reducible exact Below.refl _ _) | (with_reducible assumption) | (with_reducible refine Below.alloc ?_ ?_ _) | (with_reducible refine Below.setCell ?_ ?_ _) | (with_reducible refine Below.drew ?_) | (with_reducible refine below_drewN ?_ _) | (apply bthen2; (with_reducible assumption)) | go_size))⟩
    · obtain ⟨hC, hp⟩ := ptB_PVM g1
      have hn := inB_iff.1 g2
      have hN0 : ((n.toNat : Nat) : Int) = n := by omega
      have HM := Lib.hid (fun W => multiples_any a b x y e n.toNat (by omega) hC hp W)
      rw [hN0] at HM
      have HK := Lib.hid (show moOk a b x y e n = (mulO a (x, y, e) n.toNat).isSome by unfold moOk; rw [g1, g2]; rfl)
      have HL := Lib.hid (show (mulO a (x, y, e) n.toNat).isSome = true → moL a b x y e n = mlL a (x, y, e) n.toNat from fun h => by unfold moL; rw [HK.out, if_pos h])
      have HL0 := Lib.hid (show (mulO a (x, y, e) n.toNat).isSome = false → moL a b x y e n = [] from fun h => moNo (by rw [HK.out, h]))
      rw [HK.out]
      rw [g1] at HF; rw [g2] at HI
      clear HK hC hp g1 g2
      generalize moL a b x y e n = R at *
      generalize hKK : (mulO a (x, y, e) n.toNat).isSome = kk at *
      have HKK := Lib.hid hKK
      clear hKK hN0 hn
      go_enter Try.func8, Try.ntmps8
      go_wp2_with fail
      refine (HF.out _).mono ?_
      rintro e wa ⟨rfl, hba⟩; have hza := hba.size; (try simp only [World.size_alloc, World.size_setCell, World.size_drew, World.heap_drewN] at hza); try (refine keepc hba (w.heap.size) ?_ ?_; (focus (first | omega | (simp <;> omega))); intro hca_0 hfa_0 hla_0); try (refine keepc hba (w.heap.size + 1) ?_ ?_; (focus (first | omega | (simp <;> omega))); intro hca_1 hfa_1 hla_1); try (refine keepc hba (w.heap.size + 1 + 1) ?_ ?_; (focus (first | omega | (simp <;> omega))); intro hca_2 hfa_2 hla_2)
      go_wp2_with fail
      refine (HI.out _).mono ?_; rintro e9 wq ⟨rfl, rfl⟩
      go_wp2_with fail
      refine (HM.out _).mono ?_; rintro e9 wc ⟨hml, hbc⟩
      clear HM HF HI
      rcases hml with ⟨hno, rfl⟩ | ⟨hyes, la, ll, lc, rfl, own⟩
      · have h2 : kk = false := by rw [← HKK.out, hno]; rfl
        have HR := HL0.out h2
        subst HR h2
        clear HL HL0 HKK hno
        go_wp2_with fail
        go_ret2
        exact ⟨none, 0, 0, rfl, OwnP.nil _ _, (by repeat' (first | (with_reducible exact Below.refl _ _) | (with_reducible assumption) | (with_reducible refine Below.alloc ?_ ?_ _) | (with_reducible refine Below.setCell ?_ ?_ _) | (with_reducible refine Below.drew ?_) | (with_reducible refine below_drewN ?_ _) | (apply bthen2; (with_reducible assumption)) | go_size))⟩
      · have h2 : kk = true := by
          rw [← HKK.out]
          cases h : mulO a (x, y, e) n.toNat with
          | none => exact absurd h hyes
          | some r => rfl
        have HR := HL.out h2
        subst HR h2
        clear HL HL0 HKK hyes
        generalize mlL a (x, y, e) n.toNat = L at *
        go_wp2_with fail
        go_ret2
        exact ⟨_, _, _, rfl, own.mono (by first | omega | (simp at *; omega)), (by repeat' (first | (with_reducible exact Below.refl _ _) | (with_reducible assumption) | (with_reducible refine Below.alloc ?_ ?_ _) | (with_reducible refine Below.setCell ?_ ?_ _) | (with_reducible refine Below.drew ?_) | (with_reducible refine below_drewN ?_ _) | (apply bthen2; (with_reducible assumption)) | go_size))⟩

set_option maxRecDepth 100000 in
set_option maxHeartbeats 8000000 in
theorem sMultiplesOf_any (a b x y e n : Int) (w : World) : Calls Try.prog 9 #[.agg #[.int .i64 a, .int .i64 b], .agg #[.int .i64 x, .int .i64 y, .int .i64 e], .int .i64 n] w (GivesPB (moL a b x y e n) (moOk a b x y e n) w) := by
  have HF := Lib.hid (fun w => IsPointOf_any a b x y e w)
  have HI := Lib.hid (fun w => l1In_any n 1 12 w)
  cases g1 : ptB a b x y e
  · have g3 : moOk a b x y e n = false := by unfold moOk; simp [g1]
    rw [moNo g3, g3]
    rw [g1] at HF
    clear g3
    go_enter Try.func9, Try.ntmps9
    go_wp2_with (first | (go_at_call 23; refine (HF.out _).mono ?_; rintro e wa ⟨rfl, hba⟩; have hza := hba.size; (try simp only [World.size_alloc, World.size_setCell, World.size_drew, World.heap_drewN] at hza); try (refine keepc hba (w.heap.size) ?_ ?_; (focus (first | omega | (simp <;> omega))); intro hca_0 hfa_0 hla_0); try (refine keepc hba (w.heap.size + 1) ?_ ?_; (focus (first | omega | (simp <;> omega))); intro hca_1 hfa_1 hla_1); try (refine keepc hba (w.heap.size + 1 + 1) ?_ ?_; (focus (first | omega | (simp <;> omega))); intro hca_2 hfa_2 hla_2)))
    go_ret2
    exact ⟨none, 0, 0, rfl, OwnP.nil _ _, (by repeat' (first | (with_reducible exact Below.refl _ _) | (with_reducible assumption) | (with_reducible refine Below.alloc ?_ ?_ _) | (with_reducible refine Below.setCell ?_ ?_ _) | (with_reducible refine Below.drew ?_) | (with_reducible refine below_drewN ?_ _) | (apply bthen2; (with_reducible assumption)) | go_size))⟩
  · cases g2 : inB n 1 12
    · have g3 : moOk a b x y e n = false := by unfold moOk; simp [g2]
      rw [moNo g3, g3]
      rw [g1] at HF; rw [g2] at HI
      clear g3
      go_enter Try.func9, Try.ntmps9
      go_wp2_with (first | (go_at_call 23; refine (HF.out _).mono ?_; rintro e wa ⟨rfl, hba⟩; have hza := hba.size; (try simp only [World.size_alloc, World.size_setCell, World.size_drew, World.heap_drewN] at hza); try (refine keepc hba (w.heap.size) ?_ ?_; (focus (first | omega | (simp <;> omega))); intro hca_0 hfa_0 hla_0); try (refine keepc hba (w.heap.size + 1) ?_ ?_; (focus (first | omega | (simp <;> omega))); intro hca_1 hfa_1 hla_1); try (refine keepc hba (w.heap.size + 1 + 1) ?_ ?_; (focus (first | omega | (simp <;> omega))); intro hca_2 hfa_2 hla_2)) | (go_at_call 24; refine (HI.out _).mono ?_; rintro e w1 ⟨rfl, rfl⟩))
      go_ret2
      exact ⟨none, 0, 0, rfl, OwnP.nil _ _, (by repeat' (first | (with_reducible exact Below.refl _ _) | (with_reducible assumption) | (with_reducible refine Below.alloc ?_ ?_ _) | (with_reducible refine Below.setCell ?_ ?_ _) | (with_reducible refine Below.drew ?_) | (with_reducible refine below_drewN ?_ _) | (apply bthen2; (with_reducible assumption)) | go_size))⟩
    · obtain ⟨hC, hp⟩ := ptB_PVM g1
      have hn := inB_iff.1 g2
      have HT := Lib.hid (fun k (hk : k ≤ 1000000) W => ptTimes_any a b x y e k hk hC hp W)
      have HK := Lib.hid (show moOk a b x y e n = (mulO a (x, y, e) n.toNat).isSome by unfold moOk; rw [g1, g2]; rfl)
      have HL := Lib.hid (show (mulO a (x, y, e) n.toNat).isSome = true → moL a b x y e n = mlL a (x, y, e) n.toNat from fun h => by unfold moL; rw [HK.out, if_pos h])
      have HL0 := Lib.hid (show (mulO a (x, y, e) n.toNat).isSome = false → moL a b x y e n = [] from fun h => moNo (by rw [HK.out, h]))
      rw [HK.out]
      rw [g1] at HF; rw [g2] at HI
      clear HK hC hp g1 g2
      obtain ⟨p, hpe⟩ : ∃ p : P3, p = (x, y, e) := ⟨_, rfl⟩
      rw [← hpe] at HT HL HL0 ⊢
      clear hpe
      generalize moL a b x y e n = R at *
      obtain ⟨N, hN⟩ : ∃ N, N = n.toNat := ⟨_, rfl⟩
      rw [← hN] at HL HL0 ⊢
      have hNn : (N : Int) = n := by omega
      generalize hKK : (mulO a p N).isSome = kk at *
      have HKK := Lib.hid hKK
      clear hN hKK
      go_enter Try.func9, Try.ntmps9
      go_wp2_with fail
      refine name_worldM (fun V hV => ?_)
      have Bc : Box V w.heap.size [.int .i64 a, .int .i64 b] := by subst hV; exact box_two (by first | omega | (simp; done) | (simp; omega)) (by simp [go_sem]) (by simp [go_sem]) (fun o => by simp [go_sem])
      have Bp : Box V (w.heap.size + 1) [.int .i64 x, .int .i64 y, .int .i64 e] := by subst hV; exact box_three (by first | omega | (simp; done) | (simp; omega)) (by simp [go_sem]) (by simp [go_sem]) (by simp [go_sem]) (fun o => by simp [go_sem])
      have hB : Below w.heap.size w V := by subst hV; exact (by repeat' (first | (with_reducible exact Below.refl _ _) | (with_reducible assumption) | (with_reducible refine Below.alloc ?_ ?_ _) | (with_reducible refine Below.setCell ?_ ?_ _) | (with_reducible refine Below.drew ?_) | (with_reducible refine below_drewN ?_ _) | (apply bthen2; (with_reducible assumption)) | go_size))
      clear hV
      refine (HF.out _).mono ?_; rintro e9 W1 ⟨rfl, hba⟩
      replace Bc := Bc.below hba; replace Bp := Bp.below hba; replace hB := bthen2 hba hB
      have hsz : w.heap.size + 1 < W1.heap.size := Bp.1
      clear hba HF
      go_wp2_with fail
      refine (HI.out _).mono ?_; rintro e9 wq ⟨rfl, rfl⟩
      clear HI
      go_wp2_with fail
      go_loopw [8, 9] (fun v8 v9 wr => ∃ (k : Nat) (i : Int), v9 = .int .i64 i ∧ i = (k : Int) + 1 ∧ k ≤ N ∧ Hid (∃ r, mulO a p k = some r) ∧ OwnP wr W1.heap.size v8 (mlL a p k) ∧ Box wr w.heap.size [.int .i64 a, .int .i64 b] ∧ Box wr (w.heap.size + 1) [.int .i64 x, .int .i64 y, .int .i64 e] ∧ Below w.heap.size w wr ∧ W1.heap.size ≤ wr.heap.size) (fun _ v9 _ => (N + 1 - intOf v9).toNat)
      case atStart => exact ⟨0, 1, rfl, by simp, by omega, Lib.hid ⟨_, rfl⟩, OwnP.nil _ _, Bc, Bp, hB, Nat.le_refl _⟩
      case round =>
        clear Bc Bp hB
        obtain ⟨k, i, rfl, hi, hk, HG, hown, Bc, Bp, hB, hzr⟩ := hrel
        obtain ⟨oa, oc, rfl⟩ := hown.slice
        have c0 := Bc.2.1 0 _ rfl; have c1 := Bc.2.1 1 _ rfl; have cl := Bc.1
        have p0 := Bp.2.1 0 _ rfl; have p1 := Bp.2.1 1 _ rfl; have p2 := Bp.2.1 2 _ rfl; have pl := Bp.1
        by_cases hlt : i ≤ n
        · have HTT := Lib.hid (show ∀ W, Calls Try.prog 25 #[.agg #[.int .i64 a, .int .i64 b], .agg #[.int .i64 x, .int .i64 y, .int .i64 e], .int .i64 i] W (Gives (mulV a p (k + 1)) W) from fun W => by have := HT.out (k + 1) (by omega) W; rw [show ((k + 1 : Nat) : Int) = i by omega] at this; exact this)
          have hk2 : k + 1 ≤ N := by omega
          have hi2 : i + 1 = ((k + 1 : Nat) : Int) + 1 := by omega
          have HI2 := Lib.hid hi2
          rcases hs : mulO a p (k + 1) with _ | ⟨u, v, t⟩
          · have h2 : kk = false := by
              rw [← HKK.out]
              have := mulO_none hs (N - (k + 1))
              rw [show k + 1 + (N - (k + 1)) = N by omega] at this
              rw [this]; rfl
            have HR := HL0.out h2
            subst HR h2
            have HTT2 := HTT.out
            rw [mulV_none hs] at HTT2
            have HTT := Lib.hid HTT2
            clear HTT2 HG hs HT HL HL0 hown hi hi2 HKK
            go_wp2_with fail
            refine (HTT.out _).mono ?_
            rintro e9 wa ⟨rfl, hba⟩
            have hza := hba.size
            go_wp2_with fail
            go_ret2
            exact ⟨none, 0, 0, rfl, OwnP.nil _ _, (by repeat' (first | (with_reducible exact Below.refl _ _) | (with_reducible assumption) | (with_reducible refine Below.alloc ?_ ?_ _) | (with_reducible refine Below.setCell ?_ ?_ _) | (with_reducible refine Below.drew ?_) | (with_reducible refine below_drewN ?_ _) | (apply bthen2; (with_reducible assumption)) | go_size))⟩
          · have HTT2 := HTT.out
            rw [mulV_some hs] at HTT2
            have HTT := Lib.hid HTT2
            have HML := Lib.hid (mlL_succ hs)
            have HG2 := Lib.hid (show ∃ r, mulO a p (k + 1) = some r from ⟨_, hs⟩)
            have hal : (mlL a p k).length ≤ 1000 := by have := mlL_len a p k; omega
            clear HTT2 HG hs HT
            generalize mlL a p k = L at *
            have hw1 : wrap64 (i + 1) = i + 1 := win (by omega)
            have hmm : i ≤ (N : Int) := by omega
            clear hi hi2
            go_wp2_with fail
            refine (HTT.out _).mono ?_
            rintro e9 wa ⟨rfl, hba⟩
            have hza := hba.size
            have Bc2 := Bc.below hba; have Bp2 := Bp.below hba; have hown2 := hown.below hba
            go_wp2_with (first | (at_builtin; refine wpl_appP rfl _ _ rfl W1.heap.size (.slice oa L.length oc) L rfl (OwnP.alloc (OwnP.alloc hown2 _) _) (wa.heap.size + 1) 1 (u, v, t) rfl (cell_last3 _ _ _ _ _ (by simp)).1 (cell_last3 _ _ _ _ _ (by simp)).2.1 (cell_last3 _ _ _ _ _ (by simp)).2.2 (by omega) (Below.refl _ _) (by simp; omega) ?_; intro ap cp wp hownp hbwp hszp))
            have X1 := Box.belowN (show Box _ w.heap.size [.int .i64 a, .int .i64 b] from Box.alloc (Box.alloc Bc2 _) _) hbwp (by omega)
            have X2 := Box.belowN (show Box _ (w.heap.size + 1) [.int .i64 x, .int .i64 y, .int .i64 e] from Box.alloc (Box.alloc Bp2 _) _) hbwp (by omega)
            have X4 : Below w.heap.size w wp := by
              refine Below.trans ?_ (hbwp.mono (by omega))
              repeat' (first | (with_reducible exact Below.refl _ _) | (with_reducible assumption) | (with_reducible refine Below.alloc ?_ ?_ _) | (with_reducible refine Below.setCell ?_ ?_ _) | (with_reducible refine Below.drew ?_) | (with_reducible refine below_drewN ?_ _) | (apply bthen2; (with_reducible assumption)) | go_size)
            clear hbwp Bc2 Bp2 hown2
            go_roundw
            case rel => exact ⟨k + 1, i + 1, by first | rfl | go_num | (rw [hw1]), HI2.out, hk2, HG2, by rw [HML.out]; exact hownp, X1, X2, X4, by omega⟩
            case measure => simp [intOf, hw1]; omega
        · obtain rfl : k = N := by omega
          have h2 : kk = true := by rw [← HKK.out]; obtain ⟨r, hr⟩ := HG.out; rw [hr]; rfl
          have HR := HL.out h2
          subst HR h2
          clear HG HT HL HL0 HKK hi
          go_wp2_with fail
          go_ret2
          exact ⟨_, _, _, rfl, hown.mono (by omega), hB⟩
/-! ### parts of a function's code: a long walk is parted into theorems over them -/
def cF : Code → Code
  | .seq a _ => a
  | .cond _ a _ => a
  | .block _ a => a
  | .loop a => a
  | .scope a => a
  | c => c
def cS : Code → Code
  | .seq _ b => b
  | .cond _ _ b => b
  | c => c
def cB (f : Func) : Code := f.body.getD .skip
/-! ### multiples agree with one another -/

theorem mp_zero (A : Int) (p : P3) : mulO A p 0 = some (0, 0, 0) := rfl
theorem mp_one {A B : Int} {p : P3} (hp : EC.PV A B p) : mulO A p 1 = some p := by
  rw [mulO_succ (mp_zero A p)]; exact sumO_zl hp
theorem mpR_some {a b x y e n : Int} {r : P3} (h : mpR a b x y e n = some r) : ptB a b x y e = true ∧ -12 ≤ n ∧ n ≤ 12 ∧ mpO a (x, y, e) n = some r := by
  unfold mpR at h
  split at h
  · rename_i g
    rw [Bool.and_eq_true] at g
    have := inB_iff.1 g.2
    exact ⟨g.1, this.1, this.2, h⟩
  · cases h
theorem mpR_of {a b x y e n : Int} (h : ptB a b x y e = true) (h1 : -12 ≤ n) (h2 : n ≤ 12) : mpR a b x y e n = mpO a (x, y, e) n := by
  unfold mpR
  rw [if_pos (by rw [h, Bool.true_and]; exact inB_iff.2 ⟨h1, h2⟩)]
theorem mpO_PV {A B : Int} {p r : P3} {n : Int} (hp : EC.PV A B p) (h : mpO A p n = some r) : EC.PV A B r := by
  unfold mpO at h
  split at h
  · exact mulO_PV (EC.opp_PV hp) h
  · exact mulO_PV hp h
theorem mpO_neg {A B : Int} {p r : P3} {n : Int} (hp : EC.PV A B p) (h : mpO A p n = some r) : mpO A p (-n) = some (EC.opp r) := by
  unfold mpO at h ⊢
  by_cases g : n < 0
  · rw [if_pos g] at h; rw [if_neg (by omega)]
    have := mulO_oppS (EC.opp_PV hp) _ _ h
    rw [opp_opp] at this
    rw [show (-n).natAbs = n.natAbs by omega]; exact this
  · rw [if_neg g] at h
    by_cases g0 : n = 0
    · subst g0
      rw [if_neg (by omega)]
      have : (0, 0, 0) = r := Option.some.inj h
      subst this; rfl
    · rw [if_pos (by omega), show (-n).natAbs = n.natAbs by omega]
      exact mulO_oppS hp _ _ h
theorem mpO_pre {A B : Int} {p r : P3} {n : Int} (hp : EC.PV A B p) (hn : 0 < n) (h : mpO A p n = some r) : ∃ r', mpO A p (n - 1) = some r' ∧ EC.PV A B r' ∧ EC.sumO A r' p = some r := by
  unfold mpO at h ⊢
  rw [if_neg (by omega)] at h; rw [if_neg (by omega)]
  obtain ⟨k, hk⟩ : ∃ k, n.natAbs = k + 1 := ⟨n.natAbs - 1, by omega⟩
  rw [hk] at h
  rw [show (n - 1).natAbs = k by omega]
  obtain ⟨r', hr⟩ := mulO_pre h (show k ≤ k + 1 by omega)
  refine ⟨r', hr, mulO_PV hp hr, ?_⟩
  rw [mulO_succ hr] at h; exact h
/-- What the first check wants of a multiple. -/
theorem mpA {a b x y e n : Int} {r : P3} (h : mpR a b x y e n = some r) : ptB a b r.1 r.2.1 r.2.2 = true ∧ mpR a b x y e (-n) = some (EC.opp r) ∧ -12 ≤ n ∧ n ≤ 12 ∧ r.2.1.natAbs ≤ 2000000 ∧
    (0 < n → ∃ r', mpR a b x y e (n - 1) = some r' ∧ ptB a b r'.1 r'.2.1 r'.2.2 = true ∧ ptB a b x y e = true ∧ EC.sumO a r' (x, y, e) = some r) := by
  obtain ⟨h1, h2, h3, h4⟩ := mpR_some h
  obtain ⟨hC, hp⟩ := ptB_PVM h1
  have hr := mpO_PV hp h4
  have hy := yrng hC (show EC.PV a b (r.1, r.2.1, r.2.2) from hr)
  refine ⟨PV_ptBM hC hr, by rw [mpR_of h1 (by omega) (by omega)]; exact mpO_neg hp h4, h2, h3, by omega, fun hn => ?_⟩
  obtain ⟨r', g1, g2, g3⟩ := mpO_pre hp hn h4
  exact ⟨r', by rw [mpR_of h1 (by omega) (by omega)]; exact g1, PV_ptBM hC g2, h1, g3⟩
/-- What the second check wants of a list of multiples. -/
theorem moA {a b x y e n : Int} (h : moOk a b x y e n = true) : ((moL a b x y e n).length : Int) = n ∧ 1 ≤ n ∧ n ≤ 12 ∧ (moL a b x y e n)[0]? = some (x, y, e) ∧ ∀ (i : Nat) q, (moL a b x y e n)[i]? = some q → mpR a b x y e ((i : Int) + 1) = some q := by
  have h0 := h
  unfold moOk at h
  rw [Bool.and_eq_true, Bool.and_eq_true] at h
  obtain ⟨⟨g1, g2⟩, g3⟩ := h
  obtain ⟨hC, hp⟩ := ptB_PVM g1
  have hn := inB_iff.1 g2
  obtain ⟨r, hr⟩ := Option.isSome_iff_exists.1 g3
  obtain ⟨l1, l2⟩ := mlL_full hr
  have hL : moL a b x y e n = mlL a (x, y, e) n.toNat := by unfold moL; rw [if_pos h0]
  rw [hL]
  refine ⟨by omega, hn.1, hn.2, by rw [l2 0 (by omega)]; exact mp_one hp, fun i q hq => ?_⟩
  have hi : i < n.toNat := by rw [← l1]; exact (List.getElem?_eq_some_iff.1 hq).1
  rw [l2 i hi] at hq
  rw [mpR_of g1 (by omega) (by omega)]
  unfold mpO
  rw [if_neg (by omega), show ((i : Int) + 1).natAbs = i + 1 by omega]
  exact hq
theorem moL_len (a b x y e n : Int) : (moL a b x y e n).length ≤ 12 := by
  unfold moL
  split
  · rename_i h
    unfold moOk at h
    rw [Bool.and_eq_true, Bool.and_eq_true] at h
    have := inB_iff.1 h.1.2
    have := mlL_len a (x, y, e) n.toNat
    omega
  · simp
/-- What the third check wants of an order. -/
theorem orA {a b x y e o : Int} (h : opVM a b x y e = .tuple #[.int .i64 o, .bool true]) : 1 ≤ o ∧ o ≤ 12 ∧ o ≠ 11 ∧ mpR a b x y e o = some (0, 0, 0) ∧ itVM a b x y e = .tuple #[.bool true, .bool true] ∧ ∀ i : Int, 1 ≤ i → i < o → ∃ r, mpR a b x y e i = some r ∧ r.2.2 ≠ 0 := by
  unfold opVM at h
  cases g : ptB a b x y e with
  | false => rw [g] at h; cases h
  | true =>
    rw [g, if_pos rfl] at h
    obtain ⟨hC, hp⟩ := ptB_PVM g
    have e0 : (ordV a (x, y, e)).1 = o ∧ (ordV a (x, y, e)).2 = true := by simpa using h
    obtain ⟨e1, e2⟩ := e0
    have h11 := ord_ne11 hC hp e2
    obtain ⟨n, h1, h2, h3, h4, h5⟩ := ord_run hp e2
    rw [e1] at h3 h11
    refine ⟨by omega, by omega, h11, ?_, by unfold itVM; rw [g, if_pos rfl, e2], fun i h6 h7 => ?_⟩
    · rw [mpR_of g (by omega) (by omega)]
      unfold mpO
      rw [if_neg (by omega), show o.natAbs = n by omega]; exact h5
    · obtain ⟨q, hq, hq2⟩ := h4 i.natAbs (by omega) (by omega)
      refine ⟨q, ?_, hq2⟩
      rw [mpR_of g (by omega) (by omega)]
      unfold mpO
      rw [if_neg (by omega)]; exact hq
theorem opVM_f (a b x y e : Int) : ∃ o : Int, ∃ ok : Bool, opVM a b x y e = .tuple #[.int .i64 o, .bool ok] := by
  unfold opVM; split <;> exact ⟨_, _, rfl⟩
theorem mpT_no (r : Option P3) (h : r = none) : mpT r = .tuple #[.agg #[.int .i64 0, .int .i64 0, .int .i64 0], .bool false] := by subst h; rfl

set_option maxRecDepth 100000 in
set_option maxHeartbeats 16000000 in
theorem mul_cr (w wr : World) (Ko : Act → World → Prop) (Q : Exit → Act → World → Prop) (a b x y e o i r1 r2 r3 : Int) (bc bp : Nat) (u0 u1 u2 u3 u4 u5 u6 u7 u8 u9 u10 u11 u12 u13 u14 u15 u16 u17 u18 u21 u22 u24 u25 u26 u27 u28 u29 u30 u31 u32 u33 u34 u35 u36 u37 u38 u39 u40 u42 u43 u44 u45 u46 u47 u48 u49 u50 u51 u52 u53 u54 u55 u56 u57 u58 u59 u60 u61 u62 u63 u64 u65 u66 u67 u68 u69 u70 u71 u72 u73 u74 u75 u76 u77 u78 u79 u80 u81 u82 u83 u84 u85 u86 u87 u88 u89 u90 u91 u92 u93 u94 u95 u96 u97 u98 u99 u100 u101 u102 u103 u104 u105 u106 u107 u108 u109 u110 u111 u112 u113 u114 u115 u116 u117 u118 u119 u120 u121 u122 u123 u124 u125 u126 u127 u128 u129 u130 u131 u132 u133 u134 u135 u136 u137 u138 u139 u140 u141 u142 u143 u144 u145 u146 u147 u148 u149 u150 u151 u152 u153 u154 u155 u156 u157 u158 u159 u160 u161 u162 u163 u164 u165 u166 u167 u168 u169 u170 u171 u172 u173 u174 u175 u176 u177 u178 u179 u180 u181 u182 u183 u184 u185 u186 u187 u188 u189 u190 u191 u192 u193 u194 u195 u196 u197 u198 u199 u200 u201 u202 u203 u204 u205 u206 u207 u208 u209 u210 u211 u212 u213 u214 u215 u216 u217 u218 u219 u220 u221 u222 u223 u224 u225 u226 u227 u228 u229 u230 u231 u232 u233 u234 u235 u236 u237 u238 u239 u240 u241 u242 u243 u244 u245 u246 u247 u248 u249 u250 u251 u252 u253 u254 u255 u256 u257 u258 u259 u260 u261 u262 u263 u264 u265 u266 u267 u268 u269 u270 u271 u272 u273 u274 u275 u276 u277 u278 u279 u280 u281 u282 u283 u284 u285 u286 u287 u288 u289 u290 u291 u292 u293 u294 u295 u296 u297 u298 u299 u300 u301 u302 u303 u304 u305 u306 u307 u308 u309 u310 u311 u312 u313 u314 : Value)
    (hr : mpR a b x y e i = some (r1, r2, r3)) (h3 : r3 ≠ 0) (hlt : i < o) (hi : 1 ≤ i) (ho : o ≤ 12) (Xc : Box wr bc [.int .i64 a, .int .i64 b]) (Xp : Box wr bp [.int .i64 x, .int .i64 y, .int .i64 e]) (hB0 : Below w.heap.size w wr)
    (hEnd : ∀ (v4 v42 v43 v44 v45 v280 v281 v282 v283 v284 v285 v286 v287 v288 v289 v290 v291 v292 v293 v294 v295 v296 v297 v298 v299 v300 v301 v302 v303 v304 v305 v306 v307 v308 v309 v310 v311 v312 v313 v314 : Value) (w' : World), Below w.heap.size w w' → Ko ⟨(u0 :: u1 :: u2 :: u3 :: v4 :: u5 :: u6 :: u7 :: u8 :: u9 :: u10 :: u11 :: u12 :: u13 :: u14 :: u15 :: u16 :: u17 :: u18 :: .pointer (some ⟨bc, 0, none⟩) :: .pointer (some ⟨bp, 0, none⟩) :: u21 :: u22 :: .int .i64 o :: u24 :: u25 :: u26 :: u27 :: u28 :: u29 :: u30 :: u31 :: u32 :: u33 :: u34 :: u35 :: u36 :: u37 :: u38 :: u39 :: u40 :: .int .i64 (i + 1) :: v42 :: v43 :: v44 :: v45 :: u46 :: u47 :: u48 :: u49 :: u50 :: u51 :: u52 :: u53 :: u54 :: u55 :: u56 :: u57 :: u58 :: u59 :: u60 :: u61 :: u62 :: u63 :: u64 :: u65 :: u66 :: u67 :: u68 :: u69 :: u70 :: u71 :: u72 :: u73 :: u74 :: u75 :: u76 :: u77 :: u78 :: u79 :: u80 :: u81 :: u82 :: u83 :: u84 :: u85 :: u86 :: u87 :: u88 :: u89 :: u90 :: u91 :: u92 :: u93 :: u94 :: u95 :: u96 :: u97 :: u98 :: u99 :: u100 :: u101 :: u102 :: u103 :: u104 :: u105 :: u106 :: u107 :: u108 :: u109 :: u110 :: u111 :: u112 :: u113 :: u114 :: u115 :: u116 :: u117 :: u118 :: u119 :: u120 :: u121 :: u122 :: u123 :: u124 :: u125 :: u126 :: u127 :: u128 :: u129 :: u130 :: u131 :: u132 :: u133 :: u134 :: u135 :: u136 :: u137 :: u138 :: u139 :: u140 :: u141 :: u142 :: u143 :: u144 :: u145 :: u146 :: u147 :: u148 :: u149 :: u150 :: u151 :: u152 :: u153 :: u154 :: u155 :: u156 :: u157 :: u158 :: u159 :: u160 :: u161 :: u162 :: u163 :: u164 :: u165 :: u166 :: u167 :: u168 :: u169 :: u170 :: u171 :: u172 :: u173 :: u174 :: u175 :: u176 :: u177 :: u178 :: u179 :: u180 :: u181 :: u182 :: u183 :: u184 :: u185 :: u186 :: u187 :: u188 :: u189 :: u190 :: u191 :: u192 :: u193 :: u194 :: u195 :: u196 :: u197 :: u198 :: u199 :: u200 :: u201 :: u202 :: u203 :: u204 :: u205 :: u206 :: u207 :: u208 :: u209 :: u210 :: u211 :: u212 :: u213 :: u214 :: u215 :: u216 :: u217 :: u218 :: u219 :: u220 :: u221 :: u222 :: u223 :: u224 :: u225 :: u226 :: u227 :: u228 :: u229 :: u230 :: u231 :: u232 :: u233 :: u234 :: u235 :: u236 :: u237 :: u238 :: u239 :: u240 :: u241 :: u242 :: u243 :: u244 :: u245 :: u246 :: u247 :: u248 :: u249 :: u250 :: u251 :: u252 :: u253 :: u254 :: u255 :: u256 :: u257 :: u258 :: u259 :: u260 :: u261 :: u262 :: u263 :: u264 :: u265 :: u266 :: u267 :: u268 :: u269 :: u270 :: u271 :: u272 :: u273 :: u274 :: u275 :: u276 :: u277 :: u278 :: u279 :: v280 :: v281 :: v282 :: v283 :: v284 :: v285 :: v286 :: v287 :: v288 :: v289 :: v290 :: v291 :: v292 :: v293 :: v294 :: v295 :: v296 :: v297 :: v298 :: v299 :: v300 :: v301 :: v302 :: v303 :: v304 :: v305 :: v306 :: v307 :: v308 :: v309 :: v310 :: v311 :: v312 :: v313 :: v314 :: []).toArray, []⟩ w') :
    Code.wp Try.prog (cF (cF (cS (cS (cS (cS (cF (cS (cF (cS (cS (cS (cS (cS (cS (cS (cS (cS (cS (cS (cS (cS (cS (cB Try.f3)))))))))))))))))))))))) (Exit.then Ko Q) ⟨(u0 :: u1 :: u2 :: u3 :: u4 :: u5 :: u6 :: u7 :: u8 :: u9 :: u10 :: u11 :: u12 :: u13 :: u14 :: u15 :: u16 :: u17 :: u18 :: .pointer (some ⟨bc, 0, none⟩) :: .pointer (some ⟨bp, 0, none⟩) :: u21 :: u22 :: .int .i64 o :: u24 :: u25 :: u26 :: u27 :: u28 :: u29 :: u30 :: u31 :: u32 :: u33 :: u34 :: u35 :: u36 :: u37 :: u38 :: u39 :: u40 :: .int .i64 i :: u42 :: u43 :: u44 :: u45 :: u46 :: u47 :: u48 :: u49 :: u50 :: u51 :: u52 :: u53 :: u54 :: u55 :: u56 :: u57 :: u58 :: u59 :: u60 :: u61 :: u62 :: u63 :: u64 :: u65 :: u66 :: u67 :: u68 :: u69 :: u70 :: u71 :: u72 :: u73 :: u74 :: u75 :: u76 :: u77 :: u78 :: u79 :: u80 :: u81 :: u82 :: u83 :: u84 :: u85 :: u86 :: u87 :: u88 :: u89 :: u90 :: u91 :: u92 :: u93 :: u94 :: u95 :: u96 :: u97 :: u98 :: u99 :: u100 :: u101 :: u102 :: u103 :: u104 :: u105 :: u106 :: u107 :: u108 :: u109 :: u110 :: u111 :: u112 :: u113 :: u114 :: u115 :: u116 :: u117 :: u118 :: u119 :: u120 :: u121 :: u122 :: u123 :: u124 :: u125 :: u126 :: u127 :: u128 :: u129 :: u130 :: u131 :: u132 :: u133 :: u134 :: u135 :: u136 :: u137 :: u138 :: u139 :: u140 :: u141 :: u142 :: u143 :: u144 :: u145 :: u146 :: u147 :: u148 :: u149 :: u150 :: u151 :: u152 :: u153 :: u154 :: u155 :: u156 :: u157 :: u158 :: u159 :: u160 :: u161 :: u162 :: u163 :: u164 :: u165 :: u166 :: u167 :: u168 :: u169 :: u170 :: u171 :: u172 :: u173 :: u174 :: u175 :: u176 :: u177 :: u178 :: u179 :: u180 :: u181 :: u182 :: u183 :: u184 :: u185 :: u186 :: u187 :: u188 :: u189 :: u190 :: u191 :: u192 :: u193 :: u194 :: u195 :: u196 :: u197 :: u198 :: u199 :: u200 :: u201 :: u202 :: u203 :: u204 :: u205 :: u206 :: u207 :: u208 :: u209 :: u210 :: u211 :: u212 :: u213 :: u214 :: u215 :: u216 :: u217 :: u218 :: u219 :: u220 :: u221 :: u222 :: u223 :: u224 :: u225 :: u226 :: u227 :: u228 :: u229 :: u230 :: u231 :: u232 :: u233 :: u234 :: u235 :: u236 :: u237 :: u238 :: u239 :: u240 :: u241 :: u242 :: u243 :: u244 :: u245 :: u246 :: u247 :: u248 :: u249 :: u250 :: u251 :: u252 :: u253 :: u254 :: u255 :: u256 :: u257 :: u258 :: u259 :: u260 :: u261 :: u262 :: u263 :: u264 :: u265 :: u266 :: u267 :: u268 :: u269 :: u270 :: u271 :: u272 :: u273 :: u274 :: u275 :: u276 :: u277 :: u278 :: u279 :: u280 :: u281 :: u282 :: u283 :: u284 :: u285 :: u286 :: u287 :: u288 :: u289 :: u290 :: u291 :: u292 :: u293 :: u294 :: u295 :: u296 :: u297 :: u298 :: u299 :: u300 :: u301 :: u302 :: u303 :: u304 :: u305 :: u306 :: u307 :: u308 :: u309 :: u310 :: u311 :: u312 :: u313 :: u314 :: []).toArray, []⟩ wr := by
  show Code.wp _ (Code.seq _ _) _ _ _
  have HI := Lib.hid (fun W => MultiplePoint_any a b x y e i W)
  have HS := Lib.hid (fun W => sMultiplePoint_any a b x y e i W)
  rw [hr] at HI HS
  simp only [mpT] at HI HS
  have kt : (r3 == 0) = false := by simpa using h3
  have kt2 : decide (r3 = 0) = false := by simpa using h3
  have kw : IntKind.i64.wrap (i + 1) = i + 1 := IntWalk.i64_in _ (by omega)
  have ki : decide (i < o) = true := by simpa using hlt
  clear hr
  have hB : Below w.heap.size w wr := hB0
  clear hB0
  have qc0 := Xc.2.1 0 _ rfl; have qc1 := Xc.2.1 1 _ rfl; have qcl := Xc.1
  have qp0 := Xp.2.1 0 _ rfl; have qp1 := Xp.2.1 1 _ rfl; have qp2 := Xp.2.1 2 _ rfl; have qpl := Xp.1
  go_wp2_with fail
  refine name_worldM (fun V hV => ?_)
  have Yc : Box V (bc) [.int .i64 a, .int .i64 b] := (by subst hV; repeat' (first | assumption | (with_reducible refine Box.alloc ?_ _) | (with_reducible refine Box.set_ne ?_ (by first | (simp; done) | (simp; omega)) _)))
  have Yp : Box V (bp) [.int .i64 x, .int .i64 y, .int .i64 e] := (by subst hV; repeat' (first | assumption | (with_reducible refine Box.alloc ?_ _) | (with_reducible refine Box.set_ne ?_ (by first | (simp; done) | (simp; omega)) _)))
  have hBz := hB.size
  have hB2 : Below w.heap.size w V := by subst hV; repeat' (first | (with_reducible exact Below.refl _ _) | (with_reducible assumption) | (with_reducible refine Below.alloc ?_ ?_ _) | (with_reducible refine Below.setCell ?_ ?_ _) | (with_reducible refine Below.drew ?_) | (with_reducible refine below_drewN ?_ _) | (apply bthen2; (with_reducible assumption)) | go_size)
  clear hBz
  clear qc0 qc1 qcl qp0 qp1 qp2 qpl
  clear hV hB Xc Xp
  refine (HI.out _).mono ?_; rintro e9 wy1 ⟨rfl, hb⟩
  have Xc := Yc.below hb
  have Xp := Yp.below hb
  have hB := bthen2 hb hB2
  clear hb hB2 Yc Yp HI
  have qc0 := Xc.2.1 0 _ rfl; have qc1 := Xc.2.1 1 _ rfl; have qcl := Xc.1
  have qp0 := Xp.2.1 0 _ rfl; have qp1 := Xp.2.1 1 _ rfl; have qp2 := Xp.2.1 2 _ rfl; have qpl := Xp.1
  go_wp2_with fail
  refine name_worldM (fun V hV => ?_)
  have Yc : Box V (bc) [.int .i64 a, .int .i64 b] := (by subst hV; repeat' (first | assumption | (with_reducible refine Box.alloc ?_ _) | (with_reducible refine Box.set_ne ?_ (by first | (simp; done) | (simp; omega)) _)))
  have Yp : Box V (bp) [.int .i64 x, .int .i64 y, .int .i64 e] := (by subst hV; repeat' (first | assumption | (with_reducible refine Box.alloc ?_ _) | (with_reducible refine Box.set_ne ?_ (by first | (simp; done) | (simp; omega)) _)))
  have Ym : Box V (wy1.heap.size) [.int .i64 r1, .int .i64 r2, .int .i64 r3] := (by subst hV; exact box_three (by first | omega | (simp; done) | (simp; omega)) (by simp [go_sem]) (by simp [go_sem]) (by simp [go_sem]) (fun o => by simp [go_sem]))
  have hBz := hB.size
  have hB2 : Below w.heap.size w V := by subst hV; repeat' (first | (with_reducible exact Below.refl _ _) | (with_reducible assumption) | (with_reducible refine Below.alloc ?_ ?_ _) | (with_reducible refine Below.setCell ?_ ?_ _) | (with_reducible refine Below.drew ?_) | (with_reducible refine below_drewN ?_ _) | (apply bthen2; (with_reducible assumption)) | go_size)
  clear hBz
  clear qc0 qc1 qcl qp0 qp1 qp2 qpl
  clear hV hB Xc Xp
  refine (HS.out _).mono ?_; rintro e9 wy2 ⟨rfl, hb⟩
  have Xc := Yc.below hb
  have Xp := Yp.below hb
  have Xm := Ym.below hb
  have hB := bthen2 hb hB2
  clear hb hB2 Yc Yp Ym HS
  have qc0 := Xc.2.1 0 _ rfl; have qc1 := Xc.2.1 1 _ rfl; have qcl := Xc.1
  have qp0 := Xp.2.1 0 _ rfl; have qp1 := Xp.2.1 1 _ rfl; have qp2 := Xp.2.1 2 _ rfl; have qpl := Xp.1
  have qm0 := Xm.2.1 0 _ rfl; have qm1 := Xm.2.1 1 _ rfl; have qm2 := Xm.2.1 2 _ rfl; have qml := Xm.1
  have hBz := hB.size
  go_wp2_with fail
  first | (apply hEnd; repeat' (first | (with_reducible exact Below.refl _ _) | (with_reducible assumption) | (with_reducible refine Below.alloc ?_ ?_ _) | (with_reducible refine Below.setCell ?_ ?_ _) | (with_reducible refine Below.drew ?_) | (with_reducible refine below_drewN ?_ _) | (apply bthen2; (with_reducible assumption)) | go_size)) | repeat' (first | (with_reducible exact Below.refl _ _) | (with_reducible assumption) | (with_reducible refine Below.alloc ?_ ?_ _) | (with_reducible refine Below.setCell ?_ ?_ _) | (with_reducible refine Below.drew ?_) | (with_reducible refine below_drewN ?_ _) | (apply bthen2; (with_reducible assumption)) | go_size)
set_option maxRecDepth 100000 in
set_option maxHeartbeats 16000000 in
theorem mul_c (w wf : World) (a b x y e o : Int) (ok : Bool) (bc bp : Nat) (u0 u1 u2 u3 u4 u5 u6 u7 u8 u9 u10 u11 u12 u13 u14 u15 u16 u17 u18 u21 u24 u25 u26 u27 u28 u29 u30 u31 u32 u33 u34 u35 u36 u37 u38 u39 u40 u41 u42 u43 u44 u45 u46 u47 u48 u49 u50 u51 u52 u53 u54 u55 u56 u57 u58 u59 u60 u61 u62 u63 u64 u65 u66 u67 u68 u69 u70 u71 u72 u73 u74 u75 u76 u77 u78 u79 u80 u81 u82 u83 u84 u85 u86 u87 u88 u89 u90 u91 u92 u93 u94 u95 u96 u97 u98 u99 u100 u101 u102 u103 u104 u105 u106 u107 u108 u109 u110 u111 u112 u113 u114 u115 u116 u117 u118 u119 u120 u121 u122 u123 u124 u125 u126 u127 u128 u129 u130 u131 u132 u133 u134 u135 u136 u137 u138 u139 u140 u141 u142 u143 u144 u145 u146 u147 u148 u149 u150 u151 u152 u153 u154 u155 u156 u157 u158 u159 u160 u161 u162 u163 u164 u165 u166 u167 u168 u169 u170 u171 u172 u173 u174 u175 u176 u177 u178 u179 u180 u181 u182 u183 u184 u185 u186 u187 u188 u189 u190 u191 u192 u193 u194 u195 u196 u197 u198 u199 u200 u201 u202 u203 u204 u205 u206 u207 u208 u209 u210 u211 u212 u213 u214 u215 u216 u217 u218 u219 u220 u221 u222 u223 u224 u225 u226 u227 u228 u229 u230 u231 u232 u233 u234 u235 u236 u237 u238 u239 u240 u241 u242 u243 u244 u245 u246 u247 u248 u249 u250 u251 u252 u253 u254 u255 u256 u257 u258 u259 u260 u261 u262 u263 u264 u265 u266 u267 u268 u269 u270 u271 u272 u273 u274 u275 u276 u277 u278 u279 u280 u281 u282 u283 u284 u285 u286 u287 u288 u289 u290 u291 u292 u293 u294 u295 u296 u297 u298 u299 u300 u301 u302 u303 u304 u305 u306 u307 u308 u309 u310 u311 u312 u313 u314 : Value)
    (ho : opVM a b x y e = .tuple #[.int .i64 o, .bool ok]) (Xc : Box wf bc [.int .i64 a, .int .i64 b]) (Xp : Box wf bp [.int .i64 x, .int .i64 y, .int .i64 e]) (hB : Below w.heap.size w wf) :
    Code.wp Try.prog (cS (cS (cS (cS (cS (cS (cS (cS (cS (cS (cS (cS (cS (cS (cB Try.f3))))))))))))))) (bodyPost Try.prog Try.f3 (Gives (.bool true) w)) ⟨(u0 :: u1 :: u2 :: u3 :: u4 :: u5 :: u6 :: u7 :: u8 :: u9 :: u10 :: u11 :: u12 :: u13 :: u14 :: u15 :: u16 :: u17 :: u18 :: .pointer (some ⟨bc, 0, none⟩) :: .pointer (some ⟨bp, 0, none⟩) :: u21 :: .bool ok :: .int .i64 o :: u24 :: u25 :: u26 :: u27 :: u28 :: u29 :: u30 :: u31 :: u32 :: u33 :: u34 :: u35 :: u36 :: u37 :: u38 :: u39 :: u40 :: u41 :: u42 :: u43 :: u44 :: u45 :: u46 :: u47 :: u48 :: u49 :: u50 :: u51 :: u52 :: u53 :: u54 :: u55 :: u56 :: u57 :: u58 :: u59 :: u60 :: u61 :: u62 :: u63 :: u64 :: u65 :: u66 :: u67 :: u68 :: u69 :: u70 :: u71 :: u72 :: u73 :: u74 :: u75 :: u76 :: u77 :: u78 :: u79 :: u80 :: u81 :: u82 :: u83 :: u84 :: u85 :: u86 :: u87 :: u88 :: u89 :: u90 :: u91 :: u92 :: u93 :: u94 :: u95 :: u96 :: u97 :: u98 :: u99 :: u100 :: u101 :: u102 :: u103 :: u104 :: u105 :: u106 :: u107 :: u108 :: u109 :: u110 :: u111 :: u112 :: u113 :: u114 :: u115 :: u116 :: u117 :: u118 :: u119 :: u120 :: u121 :: u122 :: u123 :: u124 :: u125 :: u126 :: u127 :: u128 :: u129 :: u130 :: u131 :: u132 :: u133 :: u134 :: u135 :: u136 :: u137 :: u138 :: u139 :: u140 :: u141 :: u142 :: u143 :: u144 :: u145 :: u146 :: u147 :: u148 :: u149 :: u150 :: u151 :: u152 :: u153 :: u154 :: u155 :: u156 :: u157 :: u158 :: u159 :: u160 :: u161 :: u162 :: u163 :: u164 :: u165 :: u166 :: u167 :: u168 :: u169 :: u170 :: u171 :: u172 :: u173 :: u174 :: u175 :: u176 :: u177 :: u178 :: u179 :: u180 :: u181 :: u182 :: u183 :: u184 :: u185 :: u186 :: u187 :: u188 :: u189 :: u190 :: u191 :: u192 :: u193 :: u194 :: u195 :: u196 :: u197 :: u198 :: u199 :: u200 :: u201 :: u202 :: u203 :: u204 :: u205 :: u206 :: u207 :: u208 :: u209 :: u210 :: u211 :: u212 :: u213 :: u214 :: u215 :: u216 :: u217 :: u218 :: u219 :: u220 :: u221 :: u222 :: u223 :: u224 :: u225 :: u226 :: u227 :: u228 :: u229 :: u230 :: u231 :: u232 :: u233 :: u234 :: u235 :: u236 :: u237 :: u238 :: u239 :: u240 :: u241 :: u242 :: u243 :: u244 :: u245 :: u246 :: u247 :: u248 :: u249 :: u250 :: u251 :: u252 :: u253 :: u254 :: u255 :: u256 :: u257 :: u258 :: u259 :: u260 :: u261 :: u262 :: u263 :: u264 :: u265 :: u266 :: u267 :: u268 :: u269 :: u270 :: u271 :: u272 :: u273 :: u274 :: u275 :: u276 :: u277 :: u278 :: u279 :: u280 :: u281 :: u282 :: u283 :: u284 :: u285 :: u286 :: u287 :: u288 :: u289 :: u290 :: u291 :: u292 :: u293 :: u294 :: u295 :: u296 :: u297 :: u298 :: u299 :: u300 :: u301 :: u302 :: u303 :: u304 :: u305 :: u306 :: u307 :: u308 :: u309 :: u310 :: u311 :: u312 :: u313 :: u314 :: []).toArray, []⟩ wf := by
  show Code.wp _ (Code.seq _ _) _ _ _
  cases ok
  case false =>
    clear Xc Xp ho
    go_wp2_with fail
    go_ret; exact gives rfl (by repeat' (first | (with_reducible exact Below.refl _ _) | (with_reducible assumption) | (with_reducible refine Below.alloc ?_ ?_ _) | (with_reducible refine Below.setCell ?_ ?_ _) | (with_reducible refine Below.drew ?_) | (with_reducible refine below_drewN ?_ _) | (apply bthen2; (with_reducible assumption)) | go_size))
  case true =>
    obtain ⟨o1, o2, o3, o4, o5, o6⟩ := orA ho
    have H6 := Lib.hid o6
    have HI := Lib.hid (fun W => MultiplePoint_any a b x y e o W)
    have HT := Lib.hid (fun W => IsTorsionPoint_anyM a b x y e W)
    rw [o4] at HI; rw [o5] at HT
    simp only [mpT] at HI
    have kn : (o == 11) = false := by simpa using o3
    have kn2 : decide (o = 11) = false := by simpa using o3
    clear o3 o4 o5 o6 ho
    have qc0 := Xc.2.1 0 _ rfl; have qc1 := Xc.2.1 1 _ rfl; have qcl := Xc.1
    have qp0 := Xp.2.1 0 _ rfl; have qp1 := Xp.2.1 1 _ rfl; have qp2 := Xp.2.1 2 _ rfl; have qpl := Xp.1
    go_wp2_with fail
    refine name_worldM (fun V hV => ?_)
    have Yc : Box V (bc) [.int .i64 a, .int .i64 b] := (by subst hV; repeat' (first | assumption | (with_reducible refine Box.alloc ?_ _) | (with_reducible refine Box.set_ne ?_ (by first | (simp; done) | (simp; omega)) _)))
    have Yp : Box V (bp) [.int .i64 x, .int .i64 y, .int .i64 e] := (by subst hV; repeat' (first | assumption | (with_reducible refine Box.alloc ?_ _) | (with_reducible refine Box.set_ne ?_ (by first | (simp; done) | (simp; omega)) _)))
    have hBz := hB.size
    have hB2 : Below w.heap.size w V := by subst hV; repeat' (first | (with_reducible exact Below.refl _ _) | (with_reducible assumption) | (with_reducible refine Below.alloc ?_ ?_ _) | (with_reducible refine Below.setCell ?_ ?_ _) | (with_reducible refine Below.drew ?_) | (with_reducible refine below_drewN ?_ _) | (apply bthen2; (with_reducible assumption)) | go_size)
    clear hBz
    clear qc0 qc1 qcl qp0 qp1 qp2 qpl
    clear hV hB Xc Xp
    refine (HI.out _).mono ?_; rintro e9 wy1 ⟨rfl, hb⟩
    have Xc := Yc.below hb
    have Xp := Yp.below hb
    have hB := bthen2 hb hB2
    clear hb hB2 Yc Yp HI
    have qc0 := Xc.2.1 0 _ rfl; have qc1 := Xc.2.1 1 _ rfl; have qcl := Xc.1
    have qp0 := Xp.2.1 0 _ rfl; have qp1 := Xp.2.1 1 _ rfl; have qp2 := Xp.2.1 2 _ rfl; have qpl := Xp.1
    go_wp2_with fail
    refine name_worldM (fun V hV => ?_)
    have Yc : Box V (bc) [.int .i64 a, .int .i64 b] := (by subst hV; repeat' (first | assumption | (with_reducible refine Box.alloc ?_ _) | (with_reducible refine Box.set_ne ?_ (by first | (simp; done) | (simp; omega)) _)))
    have Yp : Box V (bp) [.int .i64 x, .int .i64 y, .int .i64 e] := (by subst hV; repeat' (first | assumption | (with_reducible refine Box.alloc ?_ _) | (with_reducible refine Box.set_ne ?_ (by first | (simp; done) | (simp; omega)) _)))
    have Ym : Box V (wy1.heap.size) [.int .i64 0, .int .i64 0, .int .i64 0] := (by subst hV; exact box_three (by first | omega | (simp; done) | (simp; omega)) (by simp [go_sem]) (by simp [go_sem]) (by simp [go_sem]) (fun o => by simp [go_sem]))
    have hBz := hB.size
    have hB2 : Below w.heap.size w V := by subst hV; repeat' (first | (with_reducible exact Below.refl _ _) | (with_reducible assumption) | (with_reducible refine Below.alloc ?_ ?_ _) | (with_reducible refine Below.setCell ?_ ?_ _) | (with_reducible refine Below.drew ?_) | (with_reducible refine below_drewN ?_ _) | (apply bthen2; (with_reducible assumption)) | go_size)
    clear hBz
    clear qc0 qc1 qcl qp0 qp1 qp2 qpl
    clear hV hB Xc Xp
    refine (HT.out _).mono ?_; rintro e9 wy2 ⟨rfl, hb⟩
    have Xc := Yc.below hb
    have Xp := Yp.below hb
    have Xm := Ym.below hb
    have hB := bthen2 hb hB2
    clear hb hB2 Yc Yp Ym HT
    have qc0 := Xc.2.1 0 _ rfl; have qc1 := Xc.2.1 1 _ rfl; have qcl := Xc.1
    have qp0 := Xp.2.1 0 _ rfl; have qp1 := Xp.2.1 1 _ rfl; have qp2 := Xp.2.1 2 _ rfl; have qpl := Xp.1
    have qm0 := Xm.2.1 0 _ rfl; have qm1 := Xm.2.1 1 _ rfl; have qm2 := Xm.2.1 2 _ rfl; have qml := Xm.1
    go_wp2_with fail
    obtain ⟨wq, hwq⟩ : ∃ x, x = wy2 := ⟨_, rfl⟩
    subst hwq
    clear qc0 qc1 qcl qp0 qp1 qp2 qpl qm0 qm1 qm2 qml
    go_loopw [41] (fun v41 wr => ∃ i : Int, v41 = .int .i64 i ∧ 1 ≤ i ∧ i ≤ o ∧ Box wr bc [.int .i64 a, .int .i64 b] ∧ Box wr bp [.int .i64 x, .int .i64 y, .int .i64 e] ∧ Below w.heap.size w wr) (fun v41 _ => (o - intOf v41).toNat)
    case atStart => exact ⟨1, rfl, by omega, by omega, Xc, Xp, hB⟩
    case round =>
      clear Xc Xp Xm hB
      obtain ⟨i, rfl, hi, hio, Xc, Xp, hB⟩ := hrel
      by_cases hlt : i < o
      · obtain ⟨⟨r1, r2, r3⟩, hr, h3⟩ := H6.out i hi hlt
        refine mul_cr wr wr _ _ a b x y e o i r1 r2 r3 bc bp _ _ _ _ _ _ _ _ _ _ _ _ _ _ _ _ _ _ _ _ _ _ _ _ _ _ _ _ _ _ _ _ _ _ _ _ _ _ _ _ _ _ _ _ _ _ _ _ _ _ _ _ _ _ _ _ _ _ _ _ _ _ _ _ _ _ _ _ _ _ _ _ _ _ _ _ _ _ _ _ _ _ _ _ _ _ _ _ _ _ _ _ _ _ _ _ _ _ _ _ _ _ _ _ _ _ _ _ _ _ _ _ _ _ _ _ _ _ _ _ _ _ _ _ _ _ _ _ _ _ _ _ _ _ _ _ _ _ _ _ _ _ _ _ _ _ _ _ _ _ _ _ _ _ _ _ _ _ _ _ _ _ _ _ _ _ _ _ _ _ _ _ _ _ _ _ _ _ _ _ _ _ _ _ _ _ _ _ _ _ _ _ _ _ _ _ _ _ _ _ _ _ _ _ _ _ _ _ _ _ _ _ _ _ _ _ _ _ _ _ _ _ _ _ _ _ _ _ _ _ _ _ _ _ _ _ _ _ _ _ _ _ _ _ _ _ _ _ _ _ _ _ _ _ _ _ _ _ _ _ _ _ _ _ _ _ _ _ _ _ _ _ _ _ _ _ _ _ _ _ _ _ _ _ _ _ _ _ _ _ _ _ _ _ _ _ _ _ _ _ _ _ _ _ _ _ _ _ _ _ _ hr h3 hlt hi o2 Xc Xp (Below.refl _ _) ?_
        intros
        rename_i hb9
        have hX1 := Xc.below hb9; have hX2 := Xp.below hb9; have hX3 := bthen2 hb9 hB
        first
          | (refine ⟨⟨i + 1, by first | rfl | go_num, by omega, by omega, hX1, hX2, hX3⟩, ?_⟩; simp [intOf]; omega)
          | (go_roundw; (case rel => exact ⟨i + 1, by first | rfl | go_num, by omega, by omega, hX1, hX2, hX3⟩); (case measure => simp [intOf]; omega))
      · clear H6 Xc Xp
        go_wp2_with fail
        go_ret; exact gives rfl (by repeat' (first | (with_reducible exact Below.refl _ _) | (with_reducible assumption) | (with_reducible refine Below.alloc ?_ ?_ _) | (with_reducible refine Below.setCell ?_ ?_ _) | (with_reducible refine Below.drew ?_) | (with_reducible refine below_drewN ?_ _) | (apply bthen2; (with_reducible assumption)) | go_size))

theorem name_worldW {P : Program} {c : Code} {Q : Exit → Act → World → Prop} {a : Act} {W : World} (h : ∀ V, V = W → Code.wp P c Q a V) : Code.wp P c Q a W := h W rfl
theorem mpT_ok {r : Option P3} {u v t : Int} (h : mpT r = .tuple #[.agg #[.int .i64 u, .int .i64 v, .int .i64 t], .bool true]) : r = some (u, v, t) := by
  cases r with
  | none => simp [mpT] at h
  | some q => obtain ⟨q1, q2, q3⟩ := q; simp [mpT] at h; rw [h.1, h.2.1, h.2.2]
set_option maxRecDepth 100000 in
set_option maxHeartbeats 16000000 in
theorem mul_br (wr : World) (Ko : Act → World → Prop) (Q : Exit → Act → World → Prop) (a b x y e q1 q2 q3 : Int) (L : List P3) (la : Option Addr) (lc k bc bp : Nat) (u0 u1 u2 u3 u4 u5 u6 u7 u8 u9 u10 u11 u14 u15 u16 u17 u18 u19 u20 u21 u22 u23 u24 u25 u26 u27 u28 u29 u30 u31 u32 u33 u34 u35 u36 u37 u38 u39 u40 u41 u42 u43 u44 u45 u46 u47 u48 u49 u50 u51 u52 u53 u54 u55 u56 u57 u58 u59 u60 u61 u62 u63 u64 u65 u66 u67 u68 u69 u70 u71 u72 u73 u74 u75 u76 u77 u78 u79 u80 u81 u82 u83 u84 u85 u86 u87 u88 u89 u90 u91 u92 u93 u94 u95 u96 u97 u98 u99 u100 u101 u102 u103 u104 u105 u106 u107 u108 u109 u110 u111 u112 u113 u114 u115 u116 u117 u118 u119 u120 u121 u122 u123 u124 u125 u126 u127 u128 u129 u130 u131 u132 u133 u134 u135 u136 u137 u138 u139 u140 u141 u142 u143 u144 u145 u146 u147 u148 u149 u150 u151 u152 u153 u154 u155 u156 u157 u158 u159 u160 u161 u162 u163 u164 u165 u166 u167 u168 u169 u170 u171 u172 u173 u174 u175 u176 u177 u178 u179 u180 u181 u182 u183 u184 u185 u186 u187 u188 u189 u190 u191 u192 u193 u194 u195 u196 u197 u198 u199 u200 u201 u202 u203 u204 u205 u206 u207 u208 u209 u210 u211 u212 u213 u214 u215 u216 u217 u218 u219 u220 u221 u222 u223 u227 u228 u229 u230 u231 u232 u233 u234 u235 u236 u237 u238 u239 u240 u241 u242 u243 u244 u245 u246 u247 u248 u249 u250 u251 u252 u253 u254 u255 u256 u257 u258 u259 u260 u261 u262 u263 u264 u265 u266 u267 u268 u269 u270 u271 u272 u273 u274 u275 u276 u277 u278 u279 u280 u281 u282 u283 u284 u285 u286 u287 u288 u289 u290 u291 u292 u293 u294 u295 u296 u297 u298 u299 u300 u301 u302 u303 u304 u305 u306 u307 u308 u309 u310 u311 u312 u313 u314 : Value)
    (hq : L[k]? = some (q1, q2, q3)) (hr : mpR a b x y e ((k : Int) + 1) = some (q1, q2, q3)) (hl : L.length ≤ 12) (hL : PtsR wr (.slice la L.length lc) L) (Xc : Box wr bc [.int .i64 a, .int .i64 b]) (Xp : Box wr bp [.int .i64 x, .int .i64 y, .int .i64 e])
    (hEnd : ∀ (v4 v33 v34 v35 v36 v227 v228 v229 v230 v231 v232 v233 v234 v235 v236 v237 v238 v239 v240 v241 v242 v243 v244 v245 v246 : Value) (w' : World), Below wr.heap.size wr w' → Ko ⟨(u0 :: u1 :: u2 :: u3 :: v4 :: u5 :: u6 :: u7 :: u8 :: u9 :: u10 :: u11 :: .pointer (some ⟨bc, 0, none⟩) :: .pointer (some ⟨bp, 0, none⟩) :: u14 :: u15 :: u16 :: u17 :: u18 :: u19 :: u20 :: u21 :: u22 :: u23 :: u24 :: u25 :: u26 :: u27 :: u28 :: u29 :: u30 :: u31 :: u32 :: v33 :: v34 :: v35 :: v36 :: u37 :: u38 :: u39 :: u40 :: u41 :: u42 :: u43 :: u44 :: u45 :: u46 :: u47 :: u48 :: u49 :: u50 :: u51 :: u52 :: u53 :: u54 :: u55 :: u56 :: u57 :: u58 :: u59 :: u60 :: u61 :: u62 :: u63 :: u64 :: u65 :: u66 :: u67 :: u68 :: u69 :: u70 :: u71 :: u72 :: u73 :: u74 :: u75 :: u76 :: u77 :: u78 :: u79 :: u80 :: u81 :: u82 :: u83 :: u84 :: u85 :: u86 :: u87 :: u88 :: u89 :: u90 :: u91 :: u92 :: u93 :: u94 :: u95 :: u96 :: u97 :: u98 :: u99 :: u100 :: u101 :: u102 :: u103 :: u104 :: u105 :: u106 :: u107 :: u108 :: u109 :: u110 :: u111 :: u112 :: u113 :: u114 :: u115 :: u116 :: u117 :: u118 :: u119 :: u120 :: u121 :: u122 :: u123 :: u124 :: u125 :: u126 :: u127 :: u128 :: u129 :: u130 :: u131 :: u132 :: u133 :: u134 :: u135 :: u136 :: u137 :: u138 :: u139 :: u140 :: u141 :: u142 :: u143 :: u144 :: u145 :: u146 :: u147 :: u148 :: u149 :: u150 :: u151 :: u152 :: u153 :: u154 :: u155 :: u156 :: u157 :: u158 :: u159 :: u160 :: u161 :: u162 :: u163 :: u164 :: u165 :: u166 :: u167 :: u168 :: u169 :: u170 :: u171 :: u172 :: u173 :: u174 :: u175 :: u176 :: u177 :: u178 :: u179 :: u180 :: u181 :: u182 :: u183 :: u184 :: u185 :: u186 :: u187 :: u188 :: u189 :: u190 :: u191 :: u192 :: u193 :: u194 :: u195 :: u196 :: u197 :: u198 :: u199 :: u200 :: u201 :: u202 :: u203 :: u204 :: u205 :: u206 :: u207 :: u208 :: u209 :: u210 :: u211 :: u212 :: u213 :: u214 :: u215 :: u216 :: u217 :: u218 :: u219 :: u220 :: u221 :: u222 :: u223 :: .slice la L.length lc :: .int .i64 (L.length : Int) :: .int .i64 ((k : Int) + 1) :: v227 :: v228 :: v229 :: v230 :: v231 :: v232 :: v233 :: v234 :: v235 :: v236 :: v237 :: v238 :: v239 :: v240 :: v241 :: v242 :: v243 :: v244 :: v245 :: v246 :: u247 :: u248 :: u249 :: u250 :: u251 :: u252 :: u253 :: u254 :: u255 :: u256 :: u257 :: u258 :: u259 :: u260 :: u261 :: u262 :: u263 :: u264 :: u265 :: u266 :: u267 :: u268 :: u269 :: u270 :: u271 :: u272 :: u273 :: u274 :: u275 :: u276 :: u277 :: u278 :: u279 :: u280 :: u281 :: u282 :: u283 :: u284 :: u285 :: u286 :: u287 :: u288 :: u289 :: u290 :: u291 :: u292 :: u293 :: u294 :: u295 :: u296 :: u297 :: u298 :: u299 :: u300 :: u301 :: u302 :: u303 :: u304 :: u305 :: u306 :: u307 :: u308 :: u309 :: u310 :: u311 :: u312 :: u313 :: u314 :: []).toArray, []⟩ w') :
    Code.wp Try.prog (cF (cF (cS (cS (cF (cS (cF (cS (cS (cS (cS (cS (cS (cS (cS (cS (cS (cS (cS (cS (cB Try.f3))))))))))))))))))))) (Exit.then Ko Q) ⟨(u0 :: u1 :: u2 :: u3 :: u4 :: u5 :: u6 :: u7 :: u8 :: u9 :: u10 :: u11 :: .pointer (some ⟨bc, 0, none⟩) :: .pointer (some ⟨bp, 0, none⟩) :: u14 :: u15 :: u16 :: u17 :: u18 :: u19 :: u20 :: u21 :: u22 :: u23 :: u24 :: u25 :: u26 :: u27 :: u28 :: u29 :: u30 :: u31 :: u32 :: u33 :: u34 :: u35 :: u36 :: u37 :: u38 :: u39 :: u40 :: u41 :: u42 :: u43 :: u44 :: u45 :: u46 :: u47 :: u48 :: u49 :: u50 :: u51 :: u52 :: u53 :: u54 :: u55 :: u56 :: u57 :: u58 :: u59 :: u60 :: u61 :: u62 :: u63 :: u64 :: u65 :: u66 :: u67 :: u68 :: u69 :: u70 :: u71 :: u72 :: u73 :: u74 :: u75 :: u76 :: u77 :: u78 :: u79 :: u80 :: u81 :: u82 :: u83 :: u84 :: u85 :: u86 :: u87 :: u88 :: u89 :: u90 :: u91 :: u92 :: u93 :: u94 :: u95 :: u96 :: u97 :: u98 :: u99 :: u100 :: u101 :: u102 :: u103 :: u104 :: u105 :: u106 :: u107 :: u108 :: u109 :: u110 :: u111 :: u112 :: u113 :: u114 :: u115 :: u116 :: u117 :: u118 :: u119 :: u120 :: u121 :: u122 :: u123 :: u124 :: u125 :: u126 :: u127 :: u128 :: u129 :: u130 :: u131 :: u132 :: u133 :: u134 :: u135 :: u136 :: u137 :: u138 :: u139 :: u140 :: u141 :: u142 :: u143 :: u144 :: u145 :: u146 :: u147 :: u148 :: u149 :: u150 :: u151 :: u152 :: u153 :: u154 :: u155 :: u156 :: u157 :: u158 :: u159 :: u160 :: u161 :: u162 :: u163 :: u164 :: u165 :: u166 :: u167 :: u168 :: u169 :: u170 :: u171 :: u172 :: u173 :: u174 :: u175 :: u176 :: u177 :: u178 :: u179 :: u180 :: u181 :: u182 :: u183 :: u184 :: u185 :: u186 :: u187 :: u188 :: u189 :: u190 :: u191 :: u192 :: u193 :: u194 :: u195 :: u196 :: u197 :: u198 :: u199 :: u200 :: u201 :: u202 :: u203 :: u204 :: u205 :: u206 :: u207 :: u208 :: u209 :: u210 :: u211 :: u212 :: u213 :: u214 :: u215 :: u216 :: u217 :: u218 :: u219 :: u220 :: u221 :: u222 :: u223 :: .slice la L.length lc :: .int .i64 (L.length : Int) :: .int .i64 (k : Int) :: u227 :: u228 :: u229 :: u230 :: u231 :: u232 :: u233 :: u234 :: u235 :: u236 :: u237 :: u238 :: u239 :: u240 :: u241 :: u242 :: u243 :: u244 :: u245 :: u246 :: u247 :: u248 :: u249 :: u250 :: u251 :: u252 :: u253 :: u254 :: u255 :: u256 :: u257 :: u258 :: u259 :: u260 :: u261 :: u262 :: u263 :: u264 :: u265 :: u266 :: u267 :: u268 :: u269 :: u270 :: u271 :: u272 :: u273 :: u274 :: u275 :: u276 :: u277 :: u278 :: u279 :: u280 :: u281 :: u282 :: u283 :: u284 :: u285 :: u286 :: u287 :: u288 :: u289 :: u290 :: u291 :: u292 :: u293 :: u294 :: u295 :: u296 :: u297 :: u298 :: u299 :: u300 :: u301 :: u302 :: u303 :: u304 :: u305 :: u306 :: u307 :: u308 :: u309 :: u310 :: u311 :: u312 :: u313 :: u314 :: []).toArray, []⟩ wr := by
  show Code.wp _ (Code.seq _ _) _ _ _
  have hkl : k < L.length := (List.getElem?_eq_some_iff.1 hq).1
  have hkl2 : (k : Int) < (L.length : Int) := by omega
  obtain ⟨la2, lc2, hsl, -, hcells⟩ := hL
  obtain ⟨b8, off8, ha, hbl, x0, x1, x2⟩ := hcells k _ hq
  have hca : la = some ⟨b8, off8, none⟩ := by
    have : la = la2 := by simpa using congrArg (fun v => match v with | Value.slice a _ _ => a | _ => none) hsl
    rw [this, ha]
  subst hca
  simp only at x0 x1 x2
  clear hcells hsl ha hq
  have HI := Lib.hid (fun W => MultiplePoint_any a b x y e ((k : Int) + 1) W)
  rw [hr] at HI
  simp only [mpT] at HI
  have hB : Below wr.heap.size wr wr := Below.refl _ _
  clear hr
  have qc0 := Xc.2.1 0 _ rfl; have qc1 := Xc.2.1 1 _ rfl; have qcl := Xc.1
  have qp0 := Xp.2.1 0 _ rfl; have qp1 := Xp.2.1 1 _ rfl; have qp2 := Xp.2.1 2 _ rfl; have qpl := Xp.1
  go_wp2_with fail
  refine name_worldM (fun V hV => ?_)
  have Yc : Box V (bc) [.int .i64 a, .int .i64 b] := (by subst hV; repeat' (first | assumption | (with_reducible refine Box.alloc ?_ _) | (with_reducible refine Box.set_ne ?_ (by first | (simp; done) | (simp; omega)) _)))
  have Yp : Box V (bp) [.int .i64 x, .int .i64 y, .int .i64 e] := (by subst hV; repeat' (first | assumption | (with_reducible refine Box.alloc ?_ _) | (with_reducible refine Box.set_ne ?_ (by first | (simp; done) | (simp; omega)) _)))
  have Yt : Box V (wr.heap.size) [.int .i64 q1, .int .i64 q2, .int .i64 q3] := (by subst hV; exact box_three (by first | omega | (simp; done) | (simp; omega)) (by simp [go_sem]) (by simp [go_sem]) (by simp [go_sem]) (fun o => by simp [go_sem]))
  have hBz := hB.size
  have hB2 : Below wr.heap.size wr V := by subst hV; repeat' (first | (with_reducible exact Below.refl _ _) | (with_reducible assumption) | (with_reducible refine Below.alloc ?_ ?_ _) | (with_reducible refine Below.setCell ?_ ?_ _) | (with_reducible refine Below.drew ?_) | (with_reducible refine below_drewN ?_ _) | (apply bthen2; (with_reducible assumption)) | go_size)
  clear hBz
  clear qc0 qc1 qcl qp0 qp1 qp2 qpl
  clear hV hB Xc Xp
  refine (HI.out _).mono ?_; rintro e9 wy1 ⟨rfl, hb⟩
  have Xc := Yc.below hb
  have Xp := Yp.below hb
  have Xt := Yt.below hb
  have hB := bthen2 hb hB2
  clear hb hB2 Yc Yp Yt HI x0 x1 x2
  have qc0 := Xc.2.1 0 _ rfl; have qc1 := Xc.2.1 1 _ rfl; have qcl := Xc.1
  have qp0 := Xp.2.1 0 _ rfl; have qp1 := Xp.2.1 1 _ rfl; have qp2 := Xp.2.1 2 _ rfl; have qpl := Xp.1
  have qt0 := Xt.2.1 0 _ rfl; have qt1 := Xt.2.1 1 _ rfl; have qt2 := Xt.2.1 2 _ rfl; have qtl := Xt.1
  have hBz := hB.size
  go_wp2_with fail
  first | (apply hEnd; repeat' (first | (with_reducible exact Below.refl _ _) | (with_reducible assumption) | (with_reducible refine Below.alloc ?_ ?_ _) | (with_reducible refine Below.setCell ?_ ?_ _) | (with_reducible refine Below.drew ?_) | (with_reducible refine below_drewN ?_ _) | (apply bthen2; (with_reducible assumption)) | go_size)) | repeat' (first | (with_reducible exact Below.refl _ _) | (with_reducible assumption) | (with_reducible refine Below.alloc ?_ ?_ _) | (with_reducible refine Below.setCell ?_ ?_ _) | (with_reducible refine Below.drew ?_) | (with_reducible refine below_drewN ?_ _) | (apply bthen2; (with_reducible assumption)) | go_size)
set_option maxRecDepth 100000 in
set_option maxHeartbeats 16000000 in
theorem mul_b (w wf : World) (a b x y e n : Int) (ok : Bool) (L : List P3) (la : Option Addr) (lc bc bp : Nat) (a3 b3 x3 y3 e3 o3 : Int) (ok3 : Bool) (bc3 bp3 : Nat) (u0 u1 u2 u3 u4 u5 u6 u7 u8 u9 u10 u11 u15 u18 u21 u24 u25 u26 u27 u28 u29 u30 u31 u32 u33 u34 u35 u36 u37 u38 u39 u40 u41 u42 u43 u44 u45 u46 u47 u48 u49 u50 u51 u52 u53 u54 u55 u56 u57 u58 u59 u60 u61 u62 u63 u64 u65 u66 u67 u68 u69 u70 u71 u72 u73 u74 u75 u76 u77 u78 u79 u80 u81 u82 u83 u84 u85 u86 u87 u88 u89 u90 u91 u92 u93 u94 u95 u96 u97 u98 u99 u100 u101 u102 u103 u104 u105 u106 u107 u108 u109 u110 u111 u112 u113 u114 u115 u116 u117 u118 u119 u120 u121 u122 u123 u124 u125 u126 u127 u128 u129 u130 u131 u132 u133 u134 u135 u136 u137 u138 u139 u140 u141 u142 u143 u144 u145 u146 u147 u148 u149 u150 u151 u152 u153 u154 u155 u156 u157 u158 u159 u160 u161 u162 u163 u164 u165 u166 u167 u168 u169 u170 u171 u172 u173 u174 u175 u176 u177 u178 u179 u180 u181 u182 u183 u184 u185 u186 u187 u188 u189 u190 u191 u192 u193 u194 u195 u196 u197 u198 u199 u200 u201 u202 u203 u204 u205 u206 u207 u208 u209 u210 u211 u212 u213 u214 u215 u216 u217 u218 u219 u220 u221 u222 u223 u224 u225 u226 u227 u228 u229 u230 u231 u232 u233 u234 u235 u236 u237 u238 u239 u240 u241 u242 u243 u244 u245 u246 u247 u248 u249 u250 u251 u252 u253 u254 u255 u256 u257 u258 u259 u260 u261 u262 u263 u264 u265 u266 u267 u268 u269 u270 u271 u272 u273 u274 u275 u276 u277 u278 u279 u280 u281 u282 u283 u284 u285 u286 u287 u288 u289 u290 u291 u292 u293 u294 u295 u296 u297 u298 u299 u300 u301 u302 u303 u304 u305 u306 u307 u308 u309 u310 u311 u312 u313 u314 : Value)
    (hLe : moL a b x y e n = L) (hoke : moOk a b x y e n = ok) (hL : PtsR wf (.slice la L.length lc) L) (Xc : Box wf bc [.int .i64 a, .int .i64 b]) (Xp : Box wf bp [.int .i64 x, .int .i64 y, .int .i64 e]) (ho3 : opVM a3 b3 x3 y3 e3 = .tuple #[.int .i64 o3, .bool ok3]) (Xc3 : Box wf bc3 [.int .i64 a3, .int .i64 b3]) (Xp3 : Box wf bp3 [.int .i64 x3, .int .i64 y3, .int .i64 e3]) (hB : Below w.heap.size w wf) :
    Code.wp Try.prog (cS (cS (cS (cS (cS (cS (cS (cS (cS (cS (cS (cS (cS (cB Try.f3)))))))))))))) (bodyPost Try.prog Try.f3 (Gives (.bool true) w)) ⟨(u0 :: u1 :: u2 :: u3 :: u4 :: u5 :: u6 :: u7 :: u8 :: u9 :: u10 :: u11 :: .pointer (some ⟨bc, 0, none⟩) :: .pointer (some ⟨bp, 0, none⟩) :: .int .i64 n :: u15 :: .bool ok :: .slice la L.length lc :: u18 :: .pointer (some ⟨bc3, 0, none⟩) :: .pointer (some ⟨bp3, 0, none⟩) :: u21 :: .bool ok3 :: .int .i64 o3 :: u24 :: u25 :: u26 :: u27 :: u28 :: u29 :: u30 :: u31 :: u32 :: u33 :: u34 :: u35 :: u36 :: u37 :: u38 :: u39 :: u40 :: u41 :: u42 :: u43 :: u44 :: u45 :: u46 :: u47 :: u48 :: u49 :: u50 :: u51 :: u52 :: u53 :: u54 :: u55 :: u56 :: u57 :: u58 :: u59 :: u60 :: u61 :: u62 :: u63 :: u64 :: u65 :: u66 :: u67 :: u68 :: u69 :: u70 :: u71 :: u72 :: u73 :: u74 :: u75 :: u76 :: u77 :: u78 :: u79 :: u80 :: u81 :: u82 :: u83 :: u84 :: u85 :: u86 :: u87 :: u88 :: u89 :: u90 :: u91 :: u92 :: u93 :: u94 :: u95 :: u96 :: u97 :: u98 :: u99 :: u100 :: u101 :: u102 :: u103 :: u104 :: u105 :: u106 :: u107 :: u108 :: u109 :: u110 :: u111 :: u112 :: u113 :: u114 :: u115 :: u116 :: u117 :: u118 :: u119 :: u120 :: u121 :: u122 :: u123 :: u124 :: u125 :: u126 :: u127 :: u128 :: u129 :: u130 :: u131 :: u132 :: u133 :: u134 :: u135 :: u136 :: u137 :: u138 :: u139 :: u140 :: u141 :: u142 :: u143 :: u144 :: u145 :: u146 :: u147 :: u148 :: u149 :: u150 :: u151 :: u152 :: u153 :: u154 :: u155 :: u156 :: u157 :: u158 :: u159 :: u160 :: u161 :: u162 :: u163 :: u164 :: u165 :: u166 :: u167 :: u168 :: u169 :: u170 :: u171 :: u172 :: u173 :: u174 :: u175 :: u176 :: u177 :: u178 :: u179 :: u180 :: u181 :: u182 :: u183 :: u184 :: u185 :: u186 :: u187 :: u188 :: u189 :: u190 :: u191 :: u192 :: u193 :: u194 :: u195 :: u196 :: u197 :: u198 :: u199 :: u200 :: u201 :: u202 :: u203 :: u204 :: u205 :: u206 :: u207 :: u208 :: u209 :: u210 :: u211 :: u212 :: u213 :: u214 :: u215 :: u216 :: u217 :: u218 :: u219 :: u220 :: u221 :: u222 :: u223 :: u224 :: u225 :: u226 :: u227 :: u228 :: u229 :: u230 :: u231 :: u232 :: u233 :: u234 :: u235 :: u236 :: u237 :: u238 :: u239 :: u240 :: u241 :: u242 :: u243 :: u244 :: u245 :: u246 :: u247 :: u248 :: u249 :: u250 :: u251 :: u252 :: u253 :: u254 :: u255 :: u256 :: u257 :: u258 :: u259 :: u260 :: u261 :: u262 :: u263 :: u264 :: u265 :: u266 :: u267 :: u268 :: u269 :: u270 :: u271 :: u272 :: u273 :: u274 :: u275 :: u276 :: u277 :: u278 :: u279 :: u280 :: u281 :: u282 :: u283 :: u284 :: u285 :: u286 :: u287 :: u288 :: u289 :: u290 :: u291 :: u292 :: u293 :: u294 :: u295 :: u296 :: u297 :: u298 :: u299 :: u300 :: u301 :: u302 :: u303 :: u304 :: u305 :: u306 :: u307 :: u308 :: u309 :: u310 :: u311 :: u312 :: u313 :: u314 :: []).toArray, []⟩ wf := by
  have hl12 : L.length ≤ 12 := by rw [← hLe]; exact moL_len a b x y e n
  have HM := Lib.hid (fun (h : ok = true) => by have := moA (hoke.trans h); rw [hLe] at this; exact this)
  clear hLe hoke
  show Code.wp _ (Code.seq _ _) _ _ _
  go_upto_if 212 with fail
  go_cut [4] (fun _ wx => Below wf.heap.size wf wx)
  case first =>
    cases ok
    case false =>
      clear HM Xc Xp hL Xc3 Xp3 ho3
      go_wp2_with fail
      go_meet
      exact Below.refl _ _
    case true =>
      obtain ⟨hn, n1, n12, h0, hi⟩ := HM.out rfl
      clear HM Xc3 Xp3 ho3
      have Hi := Lib.hid hi
      clear hi
      subst hn
      have hL2 := Lib.hid hL
      obtain ⟨la2, lc2, hsl, -, hcells⟩ := hL
      obtain ⟨b8, off8, ha, hbl, x0, x1, x2⟩ := hcells 0 _ h0
      have hca : la = some ⟨b8, off8, none⟩ := by
        have : la = la2 := by simpa using congrArg (fun v => match v with | Value.slice a _ _ => a | _ => none) hsl
        rw [this, ha]
      subst hca
      simp only [Nat.zero_mul, Nat.add_zero, Nat.zero_add] at x0 x1 x2
      clear hcells hsl ha h0
      have hpos : (0 : Int) < (L.length : Int) := by omega
      have qp0 := Xp.2.1 0 _ rfl; have qp1 := Xp.2.1 1 _ rfl; have qp2 := Xp.2.1 2 _ rfl; have qpl := Xp.1
      go_wp2_with fail
      go_quiet (fail)
      clear x0 x1 x2 qp0 qp1 qp2 qpl
      go_wp2_with fail
      refine name_worldW (fun V hV => ?_)
      have hbV : Below wf.heap.size wf V := by subst hV; repeat' (first | (with_reducible exact Below.refl _ _) | (with_reducible assumption) | (with_reducible refine Below.alloc ?_ ?_ _) | (with_reducible refine Below.setCell ?_ ?_ _) | (with_reducible refine Below.drew ?_) | (with_reducible refine below_drewN ?_ _) | (apply bthen2; (with_reducible assumption)) | go_size)
      clear hV
      replace Xc := Xc.below hbV; replace Xp := Xp.below hbV
      have hL3 := Lib.hid (hL2.out.below hbV)
      clear hL2
      go_loopw [226] (fun v226 wr => ∃ k : Nat, v226 = .int .i64 k ∧ k ≤ L.length ∧ Below V.heap.size V wr) (fun v226 _ => (L.length - intOf v226).toNat)
      case atStart => exact ⟨0, rfl, by omega, Below.refl _ _⟩
      case round =>
        obtain ⟨k, rfl, hk, hbw⟩ := hrel
        have hzw := hbw.size
        by_cases hlt : k < L.length
        · obtain ⟨⟨q1, q2, q3⟩, hq⟩ : ∃ q, L[k]? = some q := ⟨_, List.getElem?_eq_getElem hlt⟩
          refine mul_br wr _ _ a b x y e q1 q2 q3 L _ lc k bc bp _ _ _ _ _ _ _ _ _ _ _ _ _ _ _ _ _ _ _ _ _ _ _ _ _ _ _ _ _ _ _ _ _ _ _ _ _ _ _ _ _ _ _ _ _ _ _ _ _ _ _ _ _ _ _ _ _ _ _ _ _ _ _ _ _ _ _ _ _ _ _ _ _ _ _ _ _ _ _ _ _ _ _ _ _ _ _ _ _ _ _ _ _ _ _ _ _ _ _ _ _ _ _ _ _ _ _ _ _ _ _ _ _ _ _ _ _ _ _ _ _ _ _ _ _ _ _ _ _ _ _ _ _ _ _ _ _ _ _ _ _ _ _ _ _ _ _ _ _ _ _ _ _ _ _ _ _ _ _ _ _ _ _ _ _ _ _ _ _ _ _ _ _ _ _ _ _ _ _ _ _ _ _ _ _ _ _ _ _ _ _ _ _ _ _ _ _ _ _ _ _ _ _ _ _ _ _ _ _ _ _ _ _ _ _ _ _ _ _ _ _ _ _ _ _ _ _ _ _ _ _ _ _ _ _ _ _ _ _ _ _ _ _ _ _ _ _ _ _ _ _ _ _ _ _ _ _ _ _ _ _ _ _ _ _ _ _ _ _ _ _ _ _ _ _ _ _ _ _ _ _ _ _ _ _ _ _ _ _ _ _ _ _ _ _ _ _ _ _ _ _ _ _ _ _ _ _ _ _ _ hq (Hi.out k _ hq) hl12 (hL3.out.below hbw) (Xc.below hbw) (Xp.below hbw) ?_
          intros
          rename_i hb9
          have hX3 := bthen hbw hb9
          first
            | (refine ⟨⟨k + 1, by first | rfl | go_num, by omega, hX3⟩, ?_⟩; simp [intOf]; omega)
            | (go_roundw; (case rel => exact ⟨k + 1, by first | rfl | go_num, by omega, hX3⟩); (case measure => simp [intOf]; omega))
        · clear Hi hL3 Xc Xp
          have hbf : Below wf.heap.size wf wr := bthen hbV hbw
          go_wp2_with fail
          go_meet
          exact hbf
  case rest =>
    have hb9 : Below wf.heap.size wf wc := hcut
    iterate 1 go_step
    exact mul_c w wc a3 b3 x3 y3 e3 o3 ok3 bc3 bp3 _ _ _ _ _ _ _ _ _ _ _ _ _ _ _ _ _ _ _ _ _ _ _ _ _ _ _ _ _ _ _ _ _ _ _ _ _ _ _ _ _ _ _ _ _ _ _ _ _ _ _ _ _ _ _ _ _ _ _ _ _ _ _ _ _ _ _ _ _ _ _ _ _ _ _ _ _ _ _ _ _ _ _ _ _ _ _ _ _ _ _ _ _ _ _ _ _ _ _ _ _ _ _ _ _ _ _ _ _ _ _ _ _ _ _ _ _ _ _ _ _ _ _ _ _ _ _ _ _ _ _ _ _ _ _ _ _ _ _ _ _ _ _ _ _ _ _ _ _ _ _ _ _ _ _ _ _ _ _ _ _ _ _ _ _ _ _ _ _ _ _ _ _ _ _ _ _ _ _ _ _ _ _ _ _ _ _ _ _ _ _ _ _ _ _ _ _ _ _ _ _ _ _ _ _ _ _ _ _ _ _ _ _ _ _ _ _ _ _ _ _ _ _ _ _ _ _ _ _ _ _ _ _ _ _ _ _ _ _ _ _ _ _ _ _ _ _ _ _ _ _ _ _ _ _ _ _ _ _ _ _ _ _ _ _ _ _ _ _ _ _ _ _ _ _ _ _ _ _ _ _ _ _ _ _ _ _ _ _ _ _ _ _ _ _ _ _ _ _ _ _ _ _ _ _ _ _ _ _ _ _ ho3 (Xc3.below hb9) (Xp3.below hb9) (bthen2 hb9 hB)
set_option maxRecDepth 100000 in
set_option maxHeartbeats 16000000 in
theorem mul_a (w wf : World) (a1 b1 x1 y1 e1 n1 r1 r2 r3 : Int) (ok1 : Bool) (bc1 bp1 bm bk : Nat) (a b x y e n : Int) (ok : Bool) (L : List P3) (la : Option Addr) (lc bc bp : Nat) (a3 b3 x3 y3 e3 o3 : Int) (ok3 : Bool) (bc3 bp3 : Nat) (u0 u1 u2 u3 u4 u11 u15 u18 u21 u24 u25 u26 u27 u28 u29 u30 u31 u32 u33 u34 u35 u36 u37 u38 u39 u40 u41 u42 u43 u44 u45 u46 u47 u48 u49 u50 u51 u52 u53 u54 u55 u56 u57 u58 u59 u60 u61 u62 u63 u64 u65 u66 u67 u68 u69 u70 u71 u72 u73 u74 u75 u76 u77 u78 u79 u80 u81 u82 u83 u84 u85 u86 u87 u88 u89 u90 u91 u92 u93 u94 u95 u96 u97 u98 u99 u100 u101 u102 u103 u104 u105 u106 u107 u108 u109 u110 u111 u112 u113 u114 u115 u116 u117 u118 u119 u120 u121 u122 u123 u124 u125 u126 u127 u128 u129 u130 u131 u132 u133 u134 u135 u136 u137 u138 u139 u140 u141 u142 u143 u144 u145 u146 u147 u148 u149 u150 u151 u152 u153 u154 u155 u156 u157 u158 u159 u160 u161 u162 u163 u164 u165 u166 u167 u168 u169 u170 u171 u172 u173 u174 u175 u176 u177 u178 u179 u180 u181 u182 u183 u184 u185 u186 u187 u188 u189 u190 u191 u192 u193 u194 u195 u196 u197 u198 u199 u200 u201 u202 u203 u204 u205 u206 u207 u208 u209 u210 u211 u212 u213 u214 u215 u216 u217 u218 u219 u220 u221 u222 u223 u224 u225 u226 u227 u228 u229 u230 u231 u232 u233 u234 u235 u236 u237 u238 u239 u240 u241 u242 u243 u244 u245 u246 u247 u248 u249 u250 u251 u252 u253 u254 u255 u256 u257 u258 u259 u260 u261 u262 u263 u264 u265 u266 u267 u268 u269 u270 u271 u272 u273 u274 u275 u276 u277 u278 u279 u280 u281 u282 u283 u284 u285 u286 u287 u288 u289 u290 u291 u292 u293 u294 u295 u296 u297 u298 u299 u300 u301 u302 u303 u304 u305 u306 u307 u308 u309 u310 u311 u312 u313 u314 : Value)
    (h1 : mpT (mpR a1 b1 x1 y1 e1 n1) = .tuple #[.agg #[.int .i64 r1, .int .i64 r2, .int .i64 r3], .bool ok1]) (Xc1 : Box wf bc1 [.int .i64 a1, .int .i64 b1]) (Xp1 : Box wf bp1 [.int .i64 x1, .int .i64 y1, .int .i64 e1]) (Xm : Box wf bm [.int .i64 r1, .int .i64 r2, .int .i64 r3]) (Xk : Box wf bk [.int .i64 r1, .int .i64 r2, .int .i64 r3])
    (hLe : moL a b x y e n = L) (hoke : moOk a b x y e n = ok) (hL : PtsR wf (.slice la L.length lc) L) (Xc2 : Box wf bc [.int .i64 a, .int .i64 b]) (Xp2 : Box wf bp [.int .i64 x, .int .i64 y, .int .i64 e]) (ho3 : opVM a3 b3 x3 y3 e3 = .tuple #[.int .i64 o3, .bool ok3]) (Xc3 : Box wf bc3 [.int .i64 a3, .int .i64 b3]) (Xp3 : Box wf bp3 [.int .i64 x3, .int .i64 y3, .int .i64 e3]) (hBW : Below w.heap.size w wf) :
    Code.wp Try.prog (cS (cS (cS (cS (cS (cS (cS (cS (cS (cS (cS (cS (cB Try.f3))))))))))))) (bodyPost Try.prog Try.f3 (Gives (.bool true) w)) ⟨(u0 :: u1 :: u2 :: u3 :: u4 :: .pointer (some ⟨bc1, 0, none⟩) :: .pointer (some ⟨bp1, 0, none⟩) :: .int .i64 n1 :: .pointer (some ⟨bm, 0, none⟩) :: .bool ok1 :: .pointer (some ⟨bk, 0, none⟩) :: u11 :: .pointer (some ⟨bc, 0, none⟩) :: .pointer (some ⟨bp, 0, none⟩) :: .int .i64 n :: u15 :: .bool ok :: .slice la L.length lc :: u18 :: .pointer (some ⟨bc3, 0, none⟩) :: .pointer (some ⟨bp3, 0, none⟩) :: u21 :: .bool ok3 :: .int .i64 o3 :: u24 :: u25 :: u26 :: u27 :: u28 :: u29 :: u30 :: u31 :: u32 :: u33 :: u34 :: u35 :: u36 :: u37 :: u38 :: u39 :: u40 :: u41 :: u42 :: u43 :: u44 :: u45 :: u46 :: u47 :: u48 :: u49 :: u50 :: u51 :: u52 :: u53 :: u54 :: u55 :: u56 :: u57 :: u58 :: u59 :: u60 :: u61 :: u62 :: u63 :: u64 :: u65 :: u66 :: u67 :: u68 :: u69 :: u70 :: u71 :: u72 :: u73 :: u74 :: u75 :: u76 :: u77 :: u78 :: u79 :: u80 :: u81 :: u82 :: u83 :: u84 :: u85 :: u86 :: u87 :: u88 :: u89 :: u90 :: u91 :: u92 :: u93 :: u94 :: u95 :: u96 :: u97 :: u98 :: u99 :: u100 :: u101 :: u102 :: u103 :: u104 :: u105 :: u106 :: u107 :: u108 :: u109 :: u110 :: u111 :: u112 :: u113 :: u114 :: u115 :: u116 :: u117 :: u118 :: u119 :: u120 :: u121 :: u122 :: u123 :: u124 :: u125 :: u126 :: u127 :: u128 :: u129 :: u130 :: u131 :: u132 :: u133 :: u134 :: u135 :: u136 :: u137 :: u138 :: u139 :: u140 :: u141 :: u142 :: u143 :: u144 :: u145 :: u146 :: u147 :: u148 :: u149 :: u150 :: u151 :: u152 :: u153 :: u154 :: u155 :: u156 :: u157 :: u158 :: u159 :: u160 :: u161 :: u162 :: u163 :: u164 :: u165 :: u166 :: u167 :: u168 :: u169 :: u170 :: u171 :: u172 :: u173 :: u174 :: u175 :: u176 :: u177 :: u178 :: u179 :: u180 :: u181 :: u182 :: u183 :: u184 :: u185 :: u186 :: u187 :: u188 :: u189 :: u190 :: u191 :: u192 :: u193 :: u194 :: u195 :: u196 :: u197 :: u198 :: u199 :: u200 :: u201 :: u202 :: u203 :: u204 :: u205 :: u206 :: u207 :: u208 :: u209 :: u210 :: u211 :: u212 :: u213 :: u214 :: u215 :: u216 :: u217 :: u218 :: u219 :: u220 :: u221 :: u222 :: u223 :: u224 :: u225 :: u226 :: u227 :: u228 :: u229 :: u230 :: u231 :: u232 :: u233 :: u234 :: u235 :: u236 :: u237 :: u238 :: u239 :: u240 :: u241 :: u242 :: u243 :: u244 :: u245 :: u246 :: u247 :: u248 :: u249 :: u250 :: u251 :: u252 :: u253 :: u254 :: u255 :: u256 :: u257 :: u258 :: u259 :: u260 :: u261 :: u262 :: u263 :: u264 :: u265 :: u266 :: u267 :: u268 :: u269 :: u270 :: u271 :: u272 :: u273 :: u274 :: u275 :: u276 :: u277 :: u278 :: u279 :: u280 :: u281 :: u282 :: u283 :: u284 :: u285 :: u286 :: u287 :: u288 :: u289 :: u290 :: u291 :: u292 :: u293 :: u294 :: u295 :: u296 :: u297 :: u298 :: u299 :: u300 :: u301 :: u302 :: u303 :: u304 :: u305 :: u306 :: u307 :: u308 :: u309 :: u310 :: u311 :: u312 :: u313 :: u314 :: []).toArray, []⟩ wf := by
  show Code.wp _ (Code.seq _ _) _ _ _
  go_upto_if 138 with fail
  go_cut [4] (fun _ wx => Below wf.heap.size wf wx)
  case first =>
    clear hL Xc2 Xp2 Xc3 Xp3 ho3 hLe hoke
    cases ok1
    case false =>
      clear h1 Xc1 Xp1 Xm Xk
      go_wp2_with fail
      go_meet
      exact Below.refl _ _
    case true =>
      obtain ⟨hr⟩ : mpR a1 b1 x1 y1 e1 n1 = some (r1, r2, r3) ∧ True := ⟨mpT_ok h1, trivial⟩
      have hM := mpA hr
      simp only at hM
      obtain ⟨m1, m2, m3, m4, m5, m6⟩ := hM
      have HN := Lib.hid (fun W => MultiplePoint_any a1 b1 x1 y1 e1 (-n1) W)
      rw [m2] at HN
      simp only [mpT, EC.opp] at HN
      have HP := Lib.hid (fun W => iIsPointOf_any a1 b1 r1 r2 r3 W)
      rw [m1] at HP
      have kw1 : IntKind.i64.wrap (-n1) = -n1 := IntWalk.i64_in _ (by omega)
      have kw2 : IntKind.i64.wrap (-r2) = -r2 := IntWalk.i64_in _ (by omega)
      have M6 := Lib.hid m6
      have HR9 := Lib.hid hr
      clear h1 m1 m2 m6 hr
      have Xc := Xc1; have Xp := Xp1
      clear Xc1 Xp1
      by_cases hpos : 0 < n1
      · obtain ⟨⟨f1, f2, f3⟩, g1, g2, g3, g4⟩ := M6.out hpos
        simp only at g2
        have HQ := Lib.hid (fun W => MultiplePoint_any a1 b1 x1 y1 e1 (n1 - 1) W)
        have HR := Lib.hid (fun W => sMultiplePoint_any a1 b1 x1 y1 e1 (n1 - 1) W)
        rw [g1] at HQ HR
        simp only [mpT] at HQ HR
        have HA := Lib.hid (fun W => iAddPoints_ok a1 b1 f1 f2 f3 x1 y1 e1 g2 g3 g4 W)
        simp only at HA
        have kw3 : IntKind.i64.wrap (n1 - 1) = n1 - 1 := IntWalk.i64_in _ (by omega)
        have kp : decide (0 < n1) = true := by simpa using hpos
        clear g1 g2 g3 g4 M6 HR9
        have hB : Below wf.heap.size wf wf := Below.refl _ _
        have qc0 := Xc.2.1 0 _ rfl; have qc1 := Xc.2.1 1 _ rfl; have qcl := Xc.1
        have qp0 := Xp.2.1 0 _ rfl; have qp1 := Xp.2.1 1 _ rfl; have qp2 := Xp.2.1 2 _ rfl; have qpl := Xp.1
        have qm0 := Xm.2.1 0 _ rfl; have qm1 := Xm.2.1 1 _ rfl; have qm2 := Xm.2.1 2 _ rfl; have qml := Xm.1
        have qk0 := Xk.2.1 0 _ rfl; have qk1 := Xk.2.1 1 _ rfl; have qk2 := Xk.2.1 2 _ rfl; have qkl := Xk.1
        go_wp2_with fail
        refine name_worldM (fun V hV => ?_)
        have Yc : Box V (bc1) [.int .i64 a1, .int .i64 b1] := (by subst hV; repeat' (first | assumption | (with_reducible refine Box.alloc ?_ _) | (with_reducible refine Box.set_ne ?_ (by first | (simp; done) | (simp; omega)) _)))
        have Yp : Box V (bp1) [.int .i64 x1, .int .i64 y1, .int .i64 e1] := (by subst hV; repeat' (first | assumption | (with_reducible refine Box.alloc ?_ _) | (with_reducible refine Box.set_ne ?_ (by first | (simp; done) | (simp; omega)) _)))
        have Ym : Box V (bm) [.int .i64 r1, .int .i64 r2, .int .i64 r3] := (by subst hV; repeat' (first | assumption | (with_reducible refine Box.alloc ?_ _) | (with_reducible refine Box.set_ne ?_ (by first | (simp; done) | (simp; omega)) _)))
        have Yk : Box V (bk) [.int .i64 r1, .int .i64 r2, .int .i64 r3] := (by subst hV; repeat' (first | assumption | (with_reducible refine Box.alloc ?_ _) | (with_reducible refine Box.set_ne ?_ (by first | (simp; done) | (simp; omega)) _)))
        have hBz := hB.size
        have hB2 : Below wf.heap.size wf V := by subst hV; repeat' (first | (with_reducible exact Below.refl _ _) | (with_reducible assumption) | (with_reducible refine Below.alloc ?_ ?_ _) | (with_reducible refine Below.setCell ?_ ?_ _) | (with_reducible refine Below.drew ?_) | (with_reducible refine below_drewN ?_ _) | (apply bthen2; (with_reducible assumption)) | go_size)
        clear hBz
        clear qc0 qc1 qcl qp0 qp1 qp2 qpl qm0 qm1 qm2 qml qk0 qk1 qk2 qkl
        clear hV hB Xc Xp Xm Xk
        refine (HN.out _).mono ?_; rintro e9 wy1 ⟨rfl, hb⟩
        have Xc := Yc.below hb
        have Xp := Yp.below hb
        have Xm := Ym.below hb
        have Xk := Yk.below hb
        have hB := bthen2 hb hB2
        clear hb hB2 Yc Yp Ym Yk HN
        have qc0 := Xc.2.1 0 _ rfl; have qc1 := Xc.2.1 1 _ rfl; have qcl := Xc.1
        have qp0 := Xp.2.1 0 _ rfl; have qp1 := Xp.2.1 1 _ rfl; have qp2 := Xp.2.1 2 _ rfl; have qpl := Xp.1
        have qm0 := Xm.2.1 0 _ rfl; have qm1 := Xm.2.1 1 _ rfl; have qm2 := Xm.2.1 2 _ rfl; have qml := Xm.1
        have qk0 := Xk.2.1 0 _ rfl; have qk1 := Xk.2.1 1 _ rfl; have qk2 := Xk.2.1 2 _ rfl; have qkl := Xk.1
        go_wp2_with fail
        refine name_worldM (fun V hV => ?_)
        have Yc : Box V (bc1) [.int .i64 a1, .int .i64 b1] := (by subst hV; repeat' (first | assumption | (with_reducible refine Box.alloc ?_ _) | (with_reducible refine Box.set_ne ?_ (by first | (simp; done) | (simp; omega)) _)))
        have Yp : Box V (bp1) [.int .i64 x1, .int .i64 y1, .int .i64 e1] := (by subst hV; repeat' (first | assumption | (with_reducible refine Box.alloc ?_ _) | (with_reducible refine Box.set_ne ?_ (by first | (simp; done) | (simp; omega)) _)))
        have Ym : Box V (bm) [.int .i64 r1, .int .i64 r2, .int .i64 r3] := (by subst hV; repeat' (first | assumption | (with_reducible refine Box.alloc ?_ _) | (with_reducible refine Box.set_ne ?_ (by first | (simp; done) | (simp; omega)) _)))
        have Yk : Box V (bk) [.int .i64 r1, .int .i64 r2, .int .i64 r3] := (by subst hV; repeat' (first | assumption | (with_reducible refine Box.alloc ?_ _) | (with_reducible refine Box.set_ne ?_ (by first | (simp; done) | (simp; omega)) _)))
        have Yn : Box V (wy1.heap.size) [.int .i64 r1, .int .i64 (-r2), .int .i64 r3] := (by subst hV; exact box_three (by first | omega | (simp; done) | (simp; omega)) (by simp [go_sem]) (by simp [go_sem]) (by simp [go_sem]) (fun o => by simp [go_sem]))
        have hBz := hB.size
        have hB2 : Below wf.heap.size wf V := by subst hV; repeat' (first | (with_reducible exact Below.refl _ _) | (with_reducible assumption) | (with_reducible refine Below.alloc ?_ ?_ _) | (with_reducible refine Below.setCell ?_ ?_ _) | (with_reducible refine Below.drew ?_) | (with_reducible refine below_drewN ?_ _) | (apply bthen2; (with_reducible assumption)) | go_size)
        clear hBz
        clear qc0 qc1 qcl qp0 qp1 qp2 qpl qm0 qm1 qm2 qml qk0 qk1 qk2 qkl
        clear hV hB Xc Xp Xm Xk
        refine (HP.out _).mono ?_; rintro e9 wy2 ⟨rfl, hb⟩
        have Xc := Yc.below hb
        have Xp := Yp.below hb
        have Xm := Ym.below hb
        have Xk := Yk.below hb
        have Xn := Yn.below hb
        have hB := bthen2 hb hB2
        clear hb hB2 Yc Yp Ym Yk Yn HP
        have qc0 := Xc.2.1 0 _ rfl; have qc1 := Xc.2.1 1 _ rfl; have qcl := Xc.1
        have qp0 := Xp.2.1 0 _ rfl; have qp1 := Xp.2.1 1 _ rfl; have qp2 := Xp.2.1 2 _ rfl; have qpl := Xp.1
        have qm0 := Xm.2.1 0 _ rfl; have qm1 := Xm.2.1 1 _ rfl; have qm2 := Xm.2.1 2 _ rfl; have qml := Xm.1
        have qk0 := Xk.2.1 0 _ rfl; have qk1 := Xk.2.1 1 _ rfl; have qk2 := Xk.2.1 2 _ rfl; have qkl := Xk.1
        have qn0 := Xn.2.1 0 _ rfl; have qn1 := Xn.2.1 1 _ rfl; have qn2 := Xn.2.1 2 _ rfl; have qnl := Xn.1
        go_wp2_with fail
        refine name_worldM (fun V hV => ?_)
        have Yc : Box V (bc1) [.int .i64 a1, .int .i64 b1] := (by subst hV; repeat' (first | assumption | (with_reducible refine Box.alloc ?_ _) | (with_reducible refine Box.set_ne ?_ (by first | (simp; done) | (simp; omega)) _)))
        have Yp : Box V (bp1) [.int .i64 x1, .int .i64 y1, .int .i64 e1] := (by subst hV; repeat' (first | assumption | (with_reducible refine Box.alloc ?_ _) | (with_reducible refine Box.set_ne ?_ (by first | (simp; done) | (simp; omega)) _)))
        have Yk : Box V (bk) [.int .i64 r1, .int .i64 r2, .int .i64 r3] := (by subst hV; repeat' (first | assumption | (with_reducible refine Box.alloc ?_ _) | (with_reducible refine Box.set_ne ?_ (by first | (simp; done) | (simp; omega)) _)))
        have hBz := hB.size
        have hB2 : Below wf.heap.size wf V := by subst hV; repeat' (first | (with_reducible exact Below.refl _ _) | (with_reducible assumption) | (with_reducible refine Below.alloc ?_ ?_ _) | (with_reducible refine Below.setCell ?_ ?_ _) | (with_reducible refine Below.drew ?_) | (with_reducible refine below_drewN ?_ _) | (apply bthen2; (with_reducible assumption)) | go_size)
        clear hBz
        clear qc0 qc1 qcl qp0 qp1 qp2 qpl qm0 qm1 qm2 qml qk0 qk1 qk2 qkl qn0 qn1 qn2 qnl
        clear hV hB Xc Xp Xm Xk Xn
        refine (HQ.out _).mono ?_; rintro e9 wy3 ⟨rfl, hb⟩
        have Xc := Yc.below hb
        have Xp := Yp.below hb
        have Xk := Yk.below hb
        have hB := bthen2 hb hB2
        clear hb hB2 Yc Yp Yk HQ
        have qc0 := Xc.2.1 0 _ rfl; have qc1 := Xc.2.1 1 _ rfl; have qcl := Xc.1
        have qp0 := Xp.2.1 0 _ rfl; have qp1 := Xp.2.1 1 _ rfl; have qp2 := Xp.2.1 2 _ rfl; have qpl := Xp.1
        have qk0 := Xk.2.1 0 _ rfl; have qk1 := Xk.2.1 1 _ rfl; have qk2 := Xk.2.1 2 _ rfl; have qkl := Xk.1
        go_wp2_with fail
        refine name_worldM (fun V hV => ?_)
        have Yc : Box V (bc1) [.int .i64 a1, .int .i64 b1] := (by subst hV; repeat' (first | assumption | (with_reducible refine Box.alloc ?_ _) | (with_reducible refine Box.set_ne ?_ (by first | (simp; done) | (simp; omega)) _)))
        have Yp : Box V (bp1) [.int .i64 x1, .int .i64 y1, .int .i64 e1] := (by subst hV; repeat' (first | assumption | (with_reducible refine Box.alloc ?_ _) | (with_reducible refine Box.set_ne ?_ (by first | (simp; done) | (simp; omega)) _)))
        have Yk : Box V (bk) [.int .i64 r1, .int .i64 r2, .int .i64 r3] := (by subst hV; repeat' (first | assumption | (with_reducible refine Box.alloc ?_ _) | (with_reducible refine Box.set_ne ?_ (by first | (simp; done) | (simp; omega)) _)))
        have Yf : Box V (wy3.heap.size) [.int .i64 f1, .int .i64 f2, .int .i64 f3] := (by subst hV; exact box_three (by first | omega | (simp; done) | (simp; omega)) (by simp [go_sem]) (by simp [go_sem]) (by simp [go_sem]) (fun o => by simp [go_sem]))
        have hBz := hB.size
        have hB2 : Below wf.heap.size wf V := by subst hV; repeat' (first | (with_reducible exact Below.refl _ _) | (with_reducible assumption) | (with_reducible refine Below.alloc ?_ ?_ _) | (with_reducible refine Below.setCell ?_ ?_ _) | (with_reducible refine Below.drew ?_) | (with_reducible refine below_drewN ?_ _) | (apply bthen2; (with_reducible assumption)) | go_size)
        clear hBz
        clear qc0 qc1 qcl qp0 qp1 qp2 qpl qk0 qk1 qk2 qkl
        clear hV hB Xc Xp Xk
        refine (HA.out _).mono ?_; rintro e9 wy4 ⟨rfl, hb⟩
        have Xc := Yc.below hb
        have Xp := Yp.below hb
        have Xk := Yk.below hb
        have Xf := Yf.below hb
        have hB := bthen2 hb hB2
        clear hb hB2 Yc Yp Yk Yf HA
        have qc0 := Xc.2.1 0 _ rfl; have qc1 := Xc.2.1 1 _ rfl; have qcl := Xc.1
        have qp0 := Xp.2.1 0 _ rfl; have qp1 := Xp.2.1 1 _ rfl; have qp2 := Xp.2.1 2 _ rfl; have qpl := Xp.1
        have qk0 := Xk.2.1 0 _ rfl; have qk1 := Xk.2.1 1 _ rfl; have qk2 := Xk.2.1 2 _ rfl; have qkl := Xk.1
        have qf0 := Xf.2.1 0 _ rfl; have qf1 := Xf.2.1 1 _ rfl; have qf2 := Xf.2.1 2 _ rfl; have qfl := Xf.1
        go_wp2_with fail
        refine name_worldM (fun V hV => ?_)
        have Yc : Box V (bc1) [.int .i64 a1, .int .i64 b1] := (by subst hV; repeat' (first | assumption | (with_reducible refine Box.alloc ?_ _) | (with_reducible refine Box.set_ne ?_ (by first | (simp; done) | (simp; omega)) _)))
        have Yp : Box V (bp1) [.int .i64 x1, .int .i64 y1, .int .i64 e1] := (by subst hV; repeat' (first | assumption | (with_reducible refine Box.alloc ?_ _) | (with_reducible refine Box.set_ne ?_ (by first | (simp; done) | (simp; omega)) _)))
        have Yk : Box V (bk) [.int .i64 r1, .int .i64 r2, .int .i64 r3] := (by subst hV; repeat' (first | assumption | (with_reducible refine Box.alloc ?_ _) | (with_reducible refine Box.set_ne ?_ (by first | (simp; done) | (simp; omega)) _)))
        have Yf : Box V (wy3.heap.size) [.int .i64 f1, .int .i64 f2, .int .i64 f3] := (by subst hV; repeat' (first | assumption | (with_reducible refine Box.alloc ?_ _) | (with_reducible refine Box.set_ne ?_ (by first | (simp; done) | (simp; omega)) _)))
        have Yg : Box V (wy4.heap.size) [.int .i64 r1, .int .i64 r2, .int .i64 r3] := (by subst hV; exact box_three (by first | omega | (simp; done) | (simp; omega)) (by simp [go_sem]) (by simp [go_sem]) (by simp [go_sem]) (fun o => by simp [go_sem]))
        have hBz := hB.size
        have hB2 : Below wf.heap.size wf V := by subst hV; repeat' (first | (with_reducible exact Below.refl _ _) | (with_reducible assumption) | (with_reducible refine Below.alloc ?_ ?_ _) | (with_reducible refine Below.setCell ?_ ?_ _) | (with_reducible refine Below.drew ?_) | (with_reducible refine below_drewN ?_ _) | (apply bthen2; (with_reducible assumption)) | go_size)
        clear hBz
        clear qc0 qc1 qcl qp0 qp1 qp2 qpl qk0 qk1 qk2 qkl qf0 qf1 qf2 qfl
        clear hV hB Xc Xp Xk Xf
        refine (HR.out _).mono ?_; rintro e9 wy5 ⟨rfl, hb⟩
        have Xc := Yc.below hb
        have Xp := Yp.below hb
        have Xk := Yk.below hb
        have Xf := Yf.below hb
        have Xg := Yg.below hb
        have hB := bthen2 hb hB2
        clear hb hB2 Yc Yp Yk Yf Yg HR
        have qc0 := Xc.2.1 0 _ rfl; have qc1 := Xc.2.1 1 _ rfl; have qcl := Xc.1
        have qp0 := Xp.2.1 0 _ rfl; have qp1 := Xp.2.1 1 _ rfl; have qp2 := Xp.2.1 2 _ rfl; have qpl := Xp.1
        have qk0 := Xk.2.1 0 _ rfl; have qk1 := Xk.2.1 1 _ rfl; have qk2 := Xk.2.1 2 _ rfl; have qkl := Xk.1
        have qf0 := Xf.2.1 0 _ rfl; have qf1 := Xf.2.1 1 _ rfl; have qf2 := Xf.2.1 2 _ rfl; have qfl := Xf.1
        have qg0 := Xg.2.1 0 _ rfl; have qg1 := Xg.2.1 1 _ rfl; have qg2 := Xg.2.1 2 _ rfl; have qgl := Xg.1
        have hBz := hB.size
        go_wp2_with fail
        go_meet
        repeat' (first | (with_reducible exact Below.refl _ _) | (with_reducible assumption) | (with_reducible refine Below.alloc ?_ ?_ _) | (with_reducible refine Below.setCell ?_ ?_ _) | (with_reducible refine Below.drew ?_) | (with_reducible refine below_drewN ?_ _) | (apply bthen2; (with_reducible assumption)) | go_size)
      · have kp : decide (0 < n1) = false := by simpa using hpos
        clear M6 HR9
        have hB : Below wf.heap.size wf wf := Below.refl _ _
        have qc0 := Xc.2.1 0 _ rfl; have qc1 := Xc.2.1 1 _ rfl; have qcl := Xc.1
        have qp0 := Xp.2.1 0 _ rfl; have qp1 := Xp.2.1 1 _ rfl; have qp2 := Xp.2.1 2 _ rfl; have qpl := Xp.1
        have qm0 := Xm.2.1 0 _ rfl; have qm1 := Xm.2.1 1 _ rfl; have qm2 := Xm.2.1 2 _ rfl; have qml := Xm.1
        have qk0 := Xk.2.1 0 _ rfl; have qk1 := Xk.2.1 1 _ rfl; have qk2 := Xk.2.1 2 _ rfl; have qkl := Xk.1
        go_wp2_with fail
        refine name_worldM (fun V hV => ?_)
        have Yc : Box V (bc1) [.int .i64 a1, .int .i64 b1] := (by subst hV; repeat' (first | assumption | (with_reducible refine Box.alloc ?_ _) | (with_reducible refine Box.set_ne ?_ (by first | (simp; done) | (simp; omega)) _)))
        have Yp : Box V (bp1) [.int .i64 x1, .int .i64 y1, .int .i64 e1] := (by subst hV; repeat' (first | assumption | (with_reducible refine Box.alloc ?_ _) | (with_reducible refine Box.set_ne ?_ (by first | (simp; done) | (simp; omega)) _)))
        have Ym : Box V (bm) [.int .i64 r1, .int .i64 r2, .int .i64 r3] := (by subst hV; repeat' (first | assumption | (with_reducible refine Box.alloc ?_ _) | (with_reducible refine Box.set_ne ?_ (by first | (simp; done) | (simp; omega)) _)))
        have Yk : Box V (bk) [.int .i64 r1, .int .i64 r2, .int .i64 r3] := (by subst hV; repeat' (first | assumption | (with_reducible refine Box.alloc ?_ _) | (with_reducible refine Box.set_ne ?_ (by first | (simp; done) | (simp; omega)) _)))
        have hBz := hB.size
        have hB2 : Below wf.heap.size wf V := by subst hV; repeat' (first | (with_reducible exact Below.refl _ _) | (with_reducible assumption) | (with_reducible refine Below.alloc ?_ ?_ _) | (with_reducible refine Below.setCell ?_ ?_ _) | (with_reducible refine Below.drew ?_) | (with_reducible refine below_drewN ?_ _) | (apply bthen2; (with_reducible assumption)) | go_size)
        clear hBz
        clear qc0 qc1 qcl qp0 qp1 qp2 qpl qm0 qm1 qm2 qml qk0 qk1 qk2 qkl
        clear hV hB Xc Xp Xm Xk
        refine (HN.out _).mono ?_; rintro e9 wy1 ⟨rfl, hb⟩
        have Xc := Yc.below hb
        have Xp := Yp.below hb
        have Xm := Ym.below hb
        have Xk := Yk.below hb
        have hB := bthen2 hb hB2
        clear hb hB2 Yc Yp Ym Yk HN
        have qc0 := Xc.2.1 0 _ rfl; have qc1 := Xc.2.1 1 _ rfl; have qcl := Xc.1
        have qp0 := Xp.2.1 0 _ rfl; have qp1 := Xp.2.1 1 _ rfl; have qp2 := Xp.2.1 2 _ rfl; have qpl := Xp.1
        have qm0 := Xm.2.1 0 _ rfl; have qm1 := Xm.2.1 1 _ rfl; have qm2 := Xm.2.1 2 _ rfl; have qml := Xm.1
        have qk0 := Xk.2.1 0 _ rfl; have qk1 := Xk.2.1 1 _ rfl; have qk2 := Xk.2.1 2 _ rfl; have qkl := Xk.1
        go_wp2_with fail
        refine name_worldM (fun V hV => ?_)
        have Yc : Box V (bc1) [.int .i64 a1, .int .i64 b1] := (by subst hV; repeat' (first | assumption | (with_reducible refine Box.alloc ?_ _) | (with_reducible refine Box.set_ne ?_ (by first | (simp; done) | (simp; omega)) _)))
        have Yp : Box V (bp1) [.int .i64 x1, .int .i64 y1, .int .i64 e1] := (by subst hV; repeat' (first | assumption | (with_reducible refine Box.alloc ?_ _) | (with_reducible refine Box.set_ne ?_ (by first | (simp; done) | (simp; omega)) _)))
        have Ym : Box V (bm) [.int .i64 r1, .int .i64 r2, .int .i64 r3] := (by subst hV; repeat' (first | assumption | (with_reducible refine Box.alloc ?_ _) | (with_reducible refine Box.set_ne ?_ (by first | (simp; done) | (simp; omega)) _)))
        have Yk : Box V (bk) [.int .i64 r1, .int .i64 r2, .int .i64 r3] := (by subst hV; repeat' (first | assumption | (with_reducible refine Box.alloc ?_ _) | (with_reducible refine Box.set_ne ?_ (by first | (simp; done) | (simp; omega)) _)))
        have Yn : Box V (wy1.heap.size) [.int .i64 r1, .int .i64 (-r2), .int .i64 r3] := (by subst hV; exact box_three (by first | omega | (simp; done) | (simp; omega)) (by simp [go_sem]) (by simp [go_sem]) (by simp [go_sem]) (fun o => by simp [go_sem]))
        have hBz := hB.size
        have hB2 : Below wf.heap.size wf V := by subst hV; repeat' (first | (with_reducible exact Below.refl _ _) | (with_reducible assumption) | (with_reducible refine Below.alloc ?_ ?_ _) | (with_reducible refine Below.setCell ?_ ?_ _) | (with_reducible refine Below.drew ?_) | (with_reducible refine below_drewN ?_ _) | (apply bthen2; (with_reducible assumption)) | go_size)
        clear hBz
        clear qc0 qc1 qcl qp0 qp1 qp2 qpl qm0 qm1 qm2 qml qk0 qk1 qk2 qkl
        clear hV hB Xc Xp Xm Xk
        refine (HP.out _).mono ?_; rintro e9 wy2 ⟨rfl, hb⟩
        have Xc := Yc.below hb
        have Xp := Yp.below hb
        have Xm := Ym.below hb
        have Xk := Yk.below hb
        have Xn := Yn.below hb
        have hB := bthen2 hb hB2
        clear hb hB2 Yc Yp Ym Yk Yn HP
        have qc0 := Xc.2.1 0 _ rfl; have qc1 := Xc.2.1 1 _ rfl; have qcl := Xc.1
        have qp0 := Xp.2.1 0 _ rfl; have qp1 := Xp.2.1 1 _ rfl; have qp2 := Xp.2.1 2 _ rfl; have qpl := Xp.1
        have qm0 := Xm.2.1 0 _ rfl; have qm1 := Xm.2.1 1 _ rfl; have qm2 := Xm.2.1 2 _ rfl; have qml := Xm.1
        have qk0 := Xk.2.1 0 _ rfl; have qk1 := Xk.2.1 1 _ rfl; have qk2 := Xk.2.1 2 _ rfl; have qkl := Xk.1
        have qn0 := Xn.2.1 0 _ rfl; have qn1 := Xn.2.1 1 _ rfl; have qn2 := Xn.2.1 2 _ rfl; have qnl := Xn.1
        have hBz := hB.size
        go_wp2_with fail
        go_meet
        repeat' (first | (with_reducible exact Below.refl _ _) | (with_reducible assumption) | (with_reducible refine Below.alloc ?_ ?_ _) | (with_reducible refine Below.setCell ?_ ?_ _) | (with_reducible refine Below.drew ?_) | (with_reducible refine below_drewN ?_ _) | (apply bthen2; (with_reducible assumption)) | go_size)
  case rest =>
    have hb9 : Below wf.heap.size wf wc := hcut
    iterate 1 go_step
    exact mul_b w wc a b x y e n ok L la lc bc bp a3 b3 x3 y3 e3 o3 ok3 bc3 bp3 _ _ _ _ _ _ _ _ _ _ _ _ _ _ _ _ _ _ _ _ _ _ _ _ _ _ _ _ _ _ _ _ _ _ _ _ _ _ _ _ _ _ _ _ _ _ _ _ _ _ _ _ _ _ _ _ _ _ _ _ _ _ _ _ _ _ _ _ _ _ _ _ _ _ _ _ _ _ _ _ _ _ _ _ _ _ _ _ _ _ _ _ _ _ _ _ _ _ _ _ _ _ _ _ _ _ _ _ _ _ _ _ _ _ _ _ _ _ _ _ _ _ _ _ _ _ _ _ _ _ _ _ _ _ _ _ _ _ _ _ _ _ _ _ _ _ _ _ _ _ _ _ _ _ _ _ _ _ _ _ _ _ _ _ _ _ _ _ _ _ _ _ _ _ _ _ _ _ _ _ _ _ _ _ _ _ _ _ _ _ _ _ _ _ _ _ _ _ _ _ _ _ _ _ _ _ _ _ _ _ _ _ _ _ _ _ _ _ _ _ _ _ _ _ _ _ _ _ _ _ _ _ _ _ _ _ _ _ _ _ _ _ _ _ _ _ _ _ _ _ _ _ _ _ _ _ _ _ _ _ _ _ _ _ _ _ _ _ _ _ _ _ _ _ _ _ _ _ _ _ _ _ _ _ _ _ _ _ _ _ _ _ _ _ _ _ _ _ _ _ _ _ _ _ _ _ hLe hoke (hL.below hb9) (Xc2.below hb9) (Xp2.below hb9) ho3 (Xc3.below hb9) (Xp3.below hb9) (bthen2 hb9 hBW)

end Go.Proofs.Yteenhcikogmjjaa
