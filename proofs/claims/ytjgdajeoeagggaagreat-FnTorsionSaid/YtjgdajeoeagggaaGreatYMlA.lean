import Derived.Test.YtjgdajeoeagggaaGreatYPtV
import Derived.Test.YtjgdajeoeagggaaGreatYRegX
set_option linter.unusedSimpArgs false
set_option linter.unusedVariables false
namespace Go.Proofs.YtjgdajeoeagggaaGreat
open Go.RowKit
/-! ### no point of a curve of the program's size has the order 11 -/
namespace N11
def disc (a b c : Int) : Int := a*a*b*b - 4*b*b*b - 4*a*a*a*c - 27*c*c + 18*a*b*c
structure Prm (p : Int) : Prop where
  mul : ∀ a b : Int, p ∣ a * b → p ∣ a ∨ p ∣ b
  two : ¬ p ∣ 2
  ne : p ≠ 0
theorem Prm.sq {p a : Int} (h : Prm p) (ha : p ∣ a * a) : p ∣ a := (h.mul _ _ ha).elim id id
theorem Prm.dbl {p a : Int} (h : Prm p) (ha : p ∣ 2 * a) : p ∣ a := (h.mul _ _ ha).resolve_left h.two
theorem Prm.both {p a b : Int} (h : Prm p) (h1 : p ∣ a - b) (h2 : p ∣ a + b) : p ∣ a := h.dbl (by
  obtain ⟨j, hj⟩ := h1; obtain ⟨k, hk⟩ := h2; exact ⟨j + k, by grind⟩)
theorem Prm.canc {p a b : Int} (h : Prm p) (e : p * a = p * b) : a = b := Int.eq_of_mul_eq_mul_left h.ne e
structure Fam (a2 a4 a6 : Int) (x y : Nat → Int) : Prop where
  on : ∀ i, 1 ≤ i → i ≤ 10 → y i * y i = x i * x i * x i + a2 * x i * x i + a4 * x i + a6
  opx : ∀ i, 1 ≤ i → i ≤ 10 → x (11 - i) = x i
  opy : ∀ i, 1 ≤ i → i ≤ 10 → y (11 - i) = - y i
  chord : ∀ i j, 1 ≤ i → i ≤ 10 → 1 ≤ j → j ≤ 10 → i ≠ j → i + j ≠ 11 → ∃ l, y i - y j = l * (x i - x j) ∧ l * l = a2 + x i + x j + x ((i + j) % 11)
  tang : ∀ i, 1 ≤ i → i ≤ 10 → ∃ l, 2 * y i * l = 3 * x i * x i + 2 * a2 * x i + a4 ∧ l * l = a2 + 2 * x i + x ((i + i) % 11)
/-- Shifted to s: f(s), f'(s), f''(s)/2. -/
def F0 (a2 a4 a6 s : Int) : Int := s*s*s + a2*s*s + a4*s + a6
def F1 (a2 a4 s : Int) : Int := 3*s*s + 2*a2*s + a4
def F2 (a2 s : Int) : Int := a2 + 3*s
theorem disc_shift (a2 a4 a6 s : Int) : disc (F2 a2 s) (F1 a2 a4 s) (F0 a2 a4 a6 s) = disc a2 a4 a6 := by unfold disc F0 F1 F2; grind
theorem Fam.shift {a2 a4 a6 : Int} {x y : Nat → Int} (h : Fam a2 a4 a6 x y) (s : Int) : Fam (F2 a2 s) (F1 a2 a4 s) (F0 a2 a4 a6 s) (fun i => x i - s) y := by
  refine ⟨fun i h1 h2 => ?_, fun i h1 h2 => ?_, h.opy, fun i j h1 h2 h3 h4 h5 h6 => ?_, fun i h1 h2 => ?_⟩
  · have := h.on i h1 h2; unfold F0 F1 F2; grind
  · show x (11 - i) - s = x i - s; rw [h.opx i h1 h2]
  · obtain ⟨l, e1, e2⟩ := h.chord i j h1 h2 h3 h4 h5 h6
    exact ⟨l, by rw [e1]; grind, by rw [e2]; unfold F2; grind⟩
  · obtain ⟨l, e1, e2⟩ := h.tang i h1 h2
    exact ⟨l, by rw [e1]; unfold F1 F2; grind, by rw [e2]; unfold F2; grind⟩
section
variable {p a2 a4 a6 : Int} {x y : Nat → Int}
/-- The difference of two first coordinates divides both second ones, twice. -/
theorem Fam.dvd_y (hp : Prm p) (h : Fam a2 a4 a6 x y) {i j : Nat} (h1 : 1 ≤ i) (h2 : i ≤ 10) (h3 : 1 ≤ j) (h4 : j ≤ 10) (h5 : i ≠ j) (h6 : i + j ≠ 11) (hd : p ∣ x i - x j) : p ∣ y i := by
  obtain ⟨l, e1, -⟩ := h.chord i j h1 h2 h3 h4 h5 h6
  obtain ⟨m, e2, -⟩ := h.chord i (11 - j) h1 h2 (by omega) (by omega) (by omega) (by omega)
  rw [h.opx j h3 h4, h.opy j h3 h4] at e2
  obtain ⟨k, hk⟩ := hd
  rw [hk] at e1 e2
  exact hp.both ⟨l * k, by rw [e1]; grind⟩ ⟨m * k, by grind⟩
theorem dbl_ns {c0 c1 al u v y l : Int} (hp : Prm p) (hc0 : p ∣ c0) (hc1 : p ∣ c1) (hon : y * y = u*u*u + al*u*u + c1*u + c0) (ht : 2*y*l = 3*u*u + 2*al*u + c1) (hl : l*l = al + 2*u + v) (hv : p ∣ v) : p ∣ y := by
  obtain ⟨k0, rfl⟩ := hc0; obtain ⟨k1, rfl⟩ := hc1; obtain ⟨k2, rfl⟩ := hv
  have e : (2*y*l)*(2*y*l) = 4*(y*y)*(l*l) := by grind
  rw [ht, hl, hon] at e
  have h4 : p ∣ (u*u)*(u*u) := ⟨4*u*u*(al+u)*k2 + 4*(k0+k1*u)*(al+2*u+p*k2) - k1*(p*k1) - 2*k1*(2*al*u+3*u*u), by grind⟩
  have hu := hp.sq (hp.sq h4)
  obtain ⟨k, rfl⟩ := hu
  exact hp.sq ⟨k*(p*k)*(p*k) + al*k*(p*k) + p*k1*k + k0, by rw [hon]; grind⟩
theorem sing_u {c0 c1 al u y l : Int} (hp : Prm p) (hc0 : p ∣ c0) (hc1 : p ∣ c1) (hon : y * y = u*u*u + al*u*u + c1*u + c0) (ht : 2*y*l = 3*u*u + 2*al*u + c1) (hy : p ∣ y) : p ∣ u := by
  obtain ⟨k0, rfl⟩ := hc0; obtain ⟨k1, rfl⟩ := hc1; obtain ⟨k2, rfl⟩ := hy
  have h1 : p ∣ (u*u)*(u+al) := ⟨k2*p*k2 - k1*u - k0, by grind⟩
  have h2 : p ∣ u*(3*u+2*al) := ⟨2*k2*l - k1, by grind⟩
  rcases hp.mul _ _ h1 with h1 | h1
  · exact hp.sq h1
  rcases hp.mul _ _ h2 with h2 | h2
  · exact h2
  obtain ⟨j, hj⟩ := h1; obtain ⟨k, hk⟩ := h2
  exact ⟨k - 2*j, by grind⟩
theorem all_of {P1 P2 P3 P4 P5 P6 P7 P8 P9 P10 : Prop} (h : P1 ∨ P2 ∨ P3 ∨ P4 ∨ P5 ∨ P6 ∨ P7 ∨ P8 ∨ P9 ∨ P10) (c1 : P2 → P1) (c2 : P4 → P2) (c3 : P6 → P3) (c4 : P8 → P4) (c5 : P10 → P5) (c6 : P1 → P6) (c7 : P3 → P7) (c8 : P5 → P8) (c9 : P7 → P9) (c10 : P9 → P10) :
    P1 ∧ P2 ∧ P3 ∧ P4 ∧ P5 ∧ P6 ∧ P7 ∧ P8 ∧ P9 ∧ P10 := by grind
/-- One second coordinate is divisible: all are, and all first ones agree. -/
theorem Fam.allY (hp : Prm p) (h : Fam a2 a4 a6 x y) {i : Nat} (h1 : 1 ≤ i) (h2 : i ≤ 10) (hy : p ∣ y i) : ∀ j, 1 ≤ j → j ≤ 10 → p ∣ y j := by
  have hs := h.shift (x i)
  have e0 : p ∣ F0 a2 a4 a6 (x i) := by
    have := h.on i h1 h2
    obtain ⟨k, hk⟩ := hy
    exact ⟨k * (p * k), by unfold F0; grind⟩
  have e1 : p ∣ F1 a2 a4 (x i) := by
    obtain ⟨l, hl, -⟩ := h.tang i h1 h2
    obtain ⟨k, hk⟩ := hy
    exact ⟨2 * k * l, by unfold F1; grind⟩
  have step : ∀ j, 1 ≤ j → j ≤ 10 → p ∣ y ((j + j) % 11) → p ∣ y j := by
    intro j h3 h4 h5
    obtain ⟨l, hl, hl2⟩ := hs.tang j h3 h4
    obtain ⟨m, hm, -⟩ := hs.tang ((j + j) % 11) (by omega) (by omega)
    have h6 := sing_u hp e0 e1 (hs.on ((j + j) % 11) (by omega) (by omega)) hm h5
    exact dbl_ns hp e0 e1 (hs.on j h3 h4) hl hl2 h6
  have c1 := step 1 (by omega) (by omega); have c2 := step 2 (by omega) (by omega); have c3 := step 3 (by omega) (by omega); have c4 := step 4 (by omega) (by omega); have c5 := step 5 (by omega) (by omega)
  have c6 := step 6 (by omega) (by omega); have c7 := step 7 (by omega) (by omega); have c8 := step 8 (by omega) (by omega); have c9 := step 9 (by omega) (by omega); have c10 := step 10 (by omega) (by omega)
  simp only [Nat.reduceAdd, Nat.reduceMod] at c1 c2 c3 c4 c5 c6 c7 c8 c9 c10
  have hi : i = 1 ∨ i = 2 ∨ i = 3 ∨ i = 4 ∨ i = 5 ∨ i = 6 ∨ i = 7 ∨ i = 8 ∨ i = 9 ∨ i = 10 := by omega
  have all : p ∣ y 1 ∧ p ∣ y 2 ∧ p ∣ y 3 ∧ p ∣ y 4 ∧ p ∣ y 5 ∧ p ∣ y 6 ∧ p ∣ y 7 ∧ p ∣ y 8 ∧ p ∣ y 9 ∧ p ∣ y 10 := by
    clear hs e0 e1 step h
    exact all_of (by rcases hi with rfl | rfl | rfl | rfl | rfl | rfl | rfl | rfl | rfl | rfl <;> simp [hy]) c1 c2 c3 c4 c5 c6 c7 c8 c9 c10
  intro j h3 h4
  obtain ⟨d1, d2, d3, d4, d5, d6, d7, d8, d9, d10⟩ := all
  have hj : j = 1 ∨ j = 2 ∨ j = 3 ∨ j = 4 ∨ j = 5 ∨ j = 6 ∨ j = 7 ∨ j = 8 ∨ j = 9 ∨ j = 10 := by omega
  rcases hj with rfl | rfl | rfl | rfl | rfl | rfl | rfl | rfl | rfl | rfl <;> assumption
/-- Seen from one of its points: f(s) and f'(s) are divisible, twice and once, and all first coordinates agree. -/
theorem Fam.near (hp : Prm p) (h : Fam a2 a4 a6 x y) (hall : ∀ j, 1 ≤ j → j ≤ 10 → p ∣ y j) {i : Nat} (h1 : 1 ≤ i) (h2 : i ≤ 10) :
    F0 a2 a4 a6 (x i) = y i * y i ∧ p ∣ F1 a2 a4 (x i) ∧ ∀ j, 1 ≤ j → j ≤ 10 → p ∣ x j - x i := by
  have hs := h.shift (x i)
  have e : F0 a2 a4 a6 (x i) = y i * y i := by rw [h.on i h1 h2]; unfold F0; grind
  have e1 : p ∣ F1 a2 a4 (x i) := by
    obtain ⟨l, hl, -⟩ := h.tang i h1 h2
    obtain ⟨k, hk⟩ := hall i h1 h2
    exact ⟨2 * k * l, by unfold F1; grind⟩
  refine ⟨e, e1, fun j h3 h4 => ?_⟩
  obtain ⟨l, hl, -⟩ := hs.tang j h3 h4
  have e0 : p ∣ F0 a2 a4 a6 (x i) := by rw [e]; obtain ⟨k, hk⟩ := hall i h1 h2; exact ⟨k * y i, by rw [hk]; grind⟩
  exact sing_u hp e0 e1 (hs.on j h3 h4) hl (hall j h3 h4)
/-- A tangent or chord at a point deep down: the fourth power of p divides the discriminant. -/
theorem disc_deep {al b1 b0 : Int} (h1 : p * p ∣ b1) (h0 : p * p * p * p ∣ b0) : p * p * p * p ∣ disc al b1 b0 := by
  obtain ⟨j, rfl⟩ := h1; obtain ⟨k, rfl⟩ := h0
  exact ⟨al*al*j*j - 4*p*p*j*j*j - 4*al*al*al*k - 27*p*p*p*p*k*k + 18*al*p*p*j*k, by unfold disc; grind⟩
theorem Fam.deep (_hp : Prm p) (h : Fam a2 a4 a6 x y) {i : Nat} (h1 : 1 ≤ i) (h2 : i ≤ 10) (hy : p * p ∣ y i) : p * p * p * p ∣ disc a2 a4 a6 := by
  rw [← disc_shift a2 a4 a6 (x i)]
  refine disc_deep ?_ ?_
  · obtain ⟨l, hl, -⟩ := h.tang i h1 h2
    obtain ⟨k, hk⟩ := hy
    exact ⟨2 * k * l, by unfold F1; grind⟩
  · obtain ⟨k, hk⟩ := hy
    exact ⟨k * k, by have := h.on i h1 h2; unfold F0; grind⟩
/-- All points singular, and two of them closer than p: the discriminant has the fourth power of p. -/
theorem Fam.close (hp : Prm p) (h : Fam a2 a4 a6 x y) {i j : Nat} (h1 : 1 ≤ i) (h2 : i ≤ 10) (h3 : 1 ≤ j) (h4 : j ≤ 10) (h5 : i ≠ j) (h6 : i + j ≠ 11) (hd : p * p ∣ x i - x j) : p * p * p * p ∣ disc a2 a4 a6 := by
  refine h.deep hp h1 h2 ?_
  obtain ⟨l, e1, -⟩ := h.chord i j h1 h2 h3 h4 h5 h6
  obtain ⟨m, e2, -⟩ := h.chord i (11 - j) h1 h2 (by omega) (by omega) (by omega) (by omega)
  rw [h.opx j h3 h4, h.opy j h3 h4] at e2
  obtain ⟨k, hk⟩ := hd
  rw [hk] at e1 e2
  have h2y : 2 * y i = p * (p * (k * (l + m))) := by grind
  obtain ⟨t, ht⟩ := hp.dbl ⟨_, h2y⟩
  rw [ht] at h2y
  have h3 := hp.canc (show p * (2 * t) = p * (p * (k * (l + m))) by grind)
  obtain ⟨r, hr⟩ := hp.dbl ⟨_, h3⟩
  exact ⟨r, by rw [ht, hr]; grind⟩
/-- A cusp: the model is not the least one. -/
theorem Fam.cusp (hp : Prm p) (h : Fam a2 a4 a6 x y) (hall : ∀ j, 1 ≤ j → j ≤ 10 → p ∣ y j) (hc : p ∣ F2 a2 (x 1)) :
    ∃ b2 b4 b6 u v, Fam b2 b4 b6 u v ∧ disc a2 a4 a6 = p*p*p*p*p*p*p*p*p*p*p*p * disc b2 b4 b6 := by
  obtain ⟨e0, e1, hx⟩ := h.near hp hall (show 1 ≤ 1 by omega) (by omega)
  have hs := h.shift (x 1)
  rw [← disc_shift a2 a4 a6 (x 1)]
  generalize F0 a2 a4 a6 (x 1) = c0 at *
  generalize F1 a2 a4 (x 1) = c1 at *
  generalize F2 a2 (x 1) = al at *
  have hx1 : (fun i => x i - x 1) 1 = 0 := by simp
  replace hx : ∀ j, 1 ≤ j → j ≤ 10 → p ∣ (fun i => x i - x 1) j := hx
  clear h
  generalize (fun i => x i - x 1) = X at *
  clear e0
  -- slopes are divisible
  obtain ⟨a, rfl⟩ := hc
  have sl : ∀ i j, 1 ≤ i → i ≤ 10 → 1 ≤ j → j ≤ 10 → i ≠ j → i + j ≠ 11 → ∃ m, y i - y j = p * m * (X i - X j) ∧ p * (p * (m * m)) = p * a + X i + X j + X ((i + j) % 11) := by
    intro i j h1 h2 h3 h4 h5 h6
    obtain ⟨l, e1, e2⟩ := hs.chord i j h1 h2 h3 h4 h5 h6
    obtain ⟨t1, q1⟩ := hx i h1 h2; obtain ⟨t2, q2⟩ := hx j h3 h4; obtain ⟨t3, q3⟩ := hx ((i + j) % 11) (by omega) (by omega)
    obtain ⟨m, rfl⟩ := hp.sq ⟨a + t1 + t2 + t3, by rw [e2, q1, q2, q3]; grind⟩
    exact ⟨m, e1, by rw [← e2]; grind⟩
  -- the third points agree
  have ag : ∀ i j k l, 1 ≤ i → i ≤ 10 → 1 ≤ j → j ≤ 10 → i ≠ j → i + j ≠ 11 → (i + j) % 11 = k → (i + (11 - j)) % 11 = l → p * p ∣ X k - X l := by
    intro i j k l h1 h2 h3 h4 h5 h6 hk hl
    obtain ⟨m, -, e1⟩ := sl i j h1 h2 h3 h4 h5 h6
    obtain ⟨n, -, e2⟩ := sl i (11 - j) h1 h2 (by omega) (by omega) (by omega) (by omega)
    rw [hs.opx j h3 h4] at e2
    rw [hk] at e1; rw [hl] at e2
    exact ⟨m * m - n * n, by grind⟩
  have tr : ∀ a b c, p * p ∣ X a - X b → p * p ∣ X b - X c → p * p ∣ X a - X c := by
    intro a b c ⟨m, h1⟩ ⟨n, h2⟩; exact ⟨m + n, by grind⟩
  have sy : ∀ a b, p * p ∣ X a - X b → p * p ∣ X b - X a := by
    intro a b ⟨m, h1⟩; exact ⟨-m, by grind⟩
  have op : ∀ i, 1 ≤ i → i ≤ 10 → X (11 - i) = X i := hs.opx
  have g31 : p * p ∣ X 3 - X 10 := ag 1 2 3 10 (by omega) (by omega) (by omega) (by omega) (by omega) (by omega) (by omega) (by omega)
  have g42 : p * p ∣ X 4 - X 9 := ag 1 3 4 9 (by omega) (by omega) (by omega) (by omega) (by omega) (by omega) (by omega) (by omega)
  have g53 : p * p ∣ X 5 - X 8 := ag 1 4 5 8 (by omega) (by omega) (by omega) (by omega) (by omega) (by omega) (by omega) (by omega)
  have g54 : p * p ∣ X 6 - X 7 := ag 1 5 6 7 (by omega) (by omega) (by omega) (by omega) (by omega) (by omega) (by omega) (by omega)
  have o1 := op 1 (by omega) (by omega); have o2 := op 2 (by omega) (by omega); have o3 := op 3 (by omega) (by omega); have o4 := op 4 (by omega) (by omega); have o5 := op 5 (by omega) (by omega)
  simp only [Nat.reduceSub] at o1 o2 o3 o4 o5
  rw [o1] at g31; rw [o2] at g42; rw [o3] at g53; rw [o4, o5] at g54
  have d3 : p * p ∣ X 3 - X 1 := g31
  have d5 := tr 5 3 1 g53 d3
  have d4 := tr 4 5 1 (sy 5 4 g54) d5
  have d2 := tr 2 4 1 (sy 4 2 g42) d4
  have dv : ∀ i, 1 ≤ i → i ≤ 10 → p * p ∣ X i := by
    intro i h1 h2
    have hi : i = 1 ∨ i = 2 ∨ i = 3 ∨ i = 4 ∨ i = 5 ∨ i = 6 ∨ i = 7 ∨ i = 8 ∨ i = 9 ∨ i = 10 := by omega
    rw [hx1] at d2 d3 d4 d5
    simp only [Int.sub_zero] at d2 d3 d4 d5
    rcases hi with rfl | rfl | rfl | rfl | rfl | rfl | rfl | rfl | rfl | rfl
    · rw [hx1]; exact ⟨0, by simp⟩
    all_goals first | assumption | (rw [o5]; assumption) | (rw [o4]; assumption) | (rw [o3]; assumption) | (rw [o2]; assumption) | (rw [o1, hx1]; exact ⟨0, by simp⟩)
  -- pick the quotients
  have ha : p ∣ a := by
    obtain ⟨m, -, e1⟩ := sl 1 2 (by omega) (by omega) (by omega) (by omega) (by omega) (by omega)
    obtain ⟨t1, q1⟩ := dv 1 (by omega) (by omega); obtain ⟨t2, q2⟩ := dv 2 (by omega) (by omega); obtain ⟨t3, q3⟩ := dv 3 (by omega) (by omega)
    simp only [Nat.reduceAdd, Nat.reduceMod] at e1
    exact ⟨m * m - t1 - t2 - t3, hp.canc (by rw [q1, q2, q3] at e1; grind)⟩
  obtain ⟨b2, rfl⟩ := ha
  have hyy : ∀ i, 1 ≤ i → i ≤ 10 → p * p * p ∣ y i := by
    intro i h1 h2
    obtain ⟨j, h3, h4, h5, h6⟩ : ∃ j, 1 ≤ j ∧ j ≤ 10 ∧ i ≠ j ∧ i + j ≠ 11 := by
      by_cases g : i = 1 ∨ i = 10
      · exact ⟨2, by omega, by omega, by omega, by omega⟩
      · exact ⟨1, by omega, by omega, by omega, by omega⟩
    obtain ⟨m, e1, -⟩ := sl i j h1 h2 h3 h4 h5 h6
    obtain ⟨n, e2, -⟩ := sl i (11 - j) h1 h2 (by omega) (by omega) (by omega) (by omega)
    rw [hs.opx j h3 h4, hs.opy j h3 h4] at e2
    obtain ⟨t1, q1⟩ := dv i h1 h2; obtain ⟨t2, q2⟩ := dv j h3 h4
    rw [q1, q2] at e1 e2
    have h2y : 2 * y i = p * (p * (p * ((t1 - t2) * (m + n)))) := by grind
    obtain ⟨r1, k1⟩ := hp.dbl ⟨_, h2y⟩
    have h3y := hp.canc (show p * (2 * r1) = p * (p * (p * ((t1 - t2) * (m + n)))) by rw [← h2y, k1]; grind)
    obtain ⟨r2, k2⟩ := hp.dbl ⟨_, h3y⟩
    have h4y := hp.canc (show p * (2 * r2) = p * (p * ((t1 - t2) * (m + n))) by rw [← h3y, k2]; grind)
    obtain ⟨r3, k3⟩ := hp.dbl ⟨_, h4y⟩
    exact ⟨r3, by rw [k1, k2, k3]; grind⟩
  have hw : ∀ i, ∃ w q, 1 ≤ i → i ≤ 10 → X i = p * p * w ∧ y i = p * p * p * q := by
    intro i
    by_cases g : 1 ≤ i ∧ i ≤ 10
    · obtain ⟨w, h1⟩ := dv i g.1 g.2; obtain ⟨q, h2⟩ := hyy i g.1 g.2
      exact ⟨w, q, fun _ _ => ⟨h1, h2⟩⟩
    · exact ⟨0, 0, fun h1 h2 => absurd ⟨h1, h2⟩ g⟩
  obtain ⟨w, hw⟩ := Classical.axiomOfChoice hw
  obtain ⟨q, hw⟩ := Classical.axiomOfChoice hw
  have np : p ≠ 0 := hp.ne
  have np2 : p * p ≠ 0 := Int.mul_ne_zero np np
  have c2 : ∀ a b : Int, p * p * a = p * p * b → a = b := fun a b h => Int.eq_of_mul_eq_mul_left np2 h
  have c3 : ∀ a b : Int, p * p * p * a = p * p * p * b → a = b := fun a b h => Int.eq_of_mul_eq_mul_left (Int.mul_ne_zero np2 np) h
  have tg : ∀ i, 1 ≤ i → i ≤ 10 → ∃ m, 2 * y i * (p * m) = 3 * X i * X i + 2 * (p * (p * b2)) * X i + c1 ∧ m * m = b2 + 2 * w i + w ((i + i) % 11) := by
    intro i h1 h2
    obtain ⟨l, e1, e2⟩ := hs.tang i h1 h2
    have q1 := (hw i h1 h2).1; have q2 := (hw ((i + i) % 11) (by omega) (by omega)).1
    obtain ⟨m, rfl⟩ := hp.sq ⟨p * b2 + 2 * p * w i + p * w ((i + i) % 11), by rw [e2, q1, q2]; grind⟩
    exact ⟨m, e1, c2 _ _ (by rw [q1, q2] at e2; grind)⟩
  have h1b : ∃ b4, c1 = p * p * p * p * b4 := by
    obtain ⟨m, e1, -⟩ := tg 1 (by omega) (by omega)
    have q1 := (hw 1 (by omega) (by omega)).1; have q2 := (hw 1 (by omega) (by omega)).2
    rw [q1, q2] at e1
    exact ⟨2 * q 1 * m - 3 * w 1 * w 1 - 2 * b2 * w 1, by grind⟩
  obtain ⟨b4, rfl⟩ := h1b
  have h0b : ∃ b6, c0 = p * p * p * p * p * p * b6 := by
    have e1 := hs.on 1 (by omega) (by omega)
    have q1 := (hw 1 (by omega) (by omega)).1; have q2 := (hw 1 (by omega) (by omega)).2
    rw [q1, q2] at e1
    exact ⟨q 1 * q 1 - w 1 * w 1 * w 1 - b2 * w 1 * w 1 - b4 * w 1, by grind⟩
  obtain ⟨b6, rfl⟩ := h0b
  refine ⟨b2, b4, b6, w, q, ⟨fun i h1 h2 => ?_, fun i h1 h2 => ?_, fun i h1 h2 => ?_, fun i j h1 h2 h3 h4 h5 h6 => ?_, fun i h1 h2 => ?_⟩, ?_⟩
  · have e1 := hs.on i h1 h2
    have q1 := (hw i h1 h2).1; have q2 := (hw i h1 h2).2
    rw [q1, q2] at e1
    exact c3 _ _ (c3 _ _ (by grind))
  · have q1 := (hw i h1 h2).1; have q2 := (hw (11 - i) (by omega) (by omega)).1
    exact c2 _ _ (by rw [← q1, ← q2, hs.opx i h1 h2])
  · have q1 := (hw i h1 h2).2; have q2 := (hw (11 - i) (by omega) (by omega)).2
    exact c3 _ _ (by rw [← q2, hs.opy i h1 h2, q1]; grind)
  · obtain ⟨m, e1, e2⟩ := sl i j h1 h2 h3 h4 h5 h6
    obtain ⟨q1, r1⟩ := hw i h1 h2; obtain ⟨q2, r2⟩ := hw j h3 h4; have q3 := (hw ((i + j) % 11) (by omega) (by omega)).1
    rw [q1, q2, q3] at e2; rw [q1, q2, r1, r2] at e1
    exact ⟨m, c3 _ _ (by grind), c2 _ _ (by grind)⟩
  · obtain ⟨m, e1, e2⟩ := tg i h1 h2
    obtain ⟨q1, r1⟩ := hw i h1 h2
    rw [q1, r1] at e1
    exact ⟨m, c2 _ _ (c2 _ _ (by grind)), e2⟩
  · unfold disc; grind
end
theorem prm3 : Prm 3 := ⟨fun a b h => by
  have h := Int.emod_eq_zero_of_dvd h
  rw [Int.mul_emod] at h
  have ha : a % 3 = 0 ∨ a % 3 = 1 ∨ a % 3 = 2 := by omega
  have hb : b % 3 = 0 ∨ b % 3 = 1 ∨ b % 3 = 2 := by omega
  rcases ha with e | e | e <;> rcases hb with f | f | f <;> simp [e, f] at h <;> omega, by decide, by decide⟩
theorem prm5 : Prm 5 := ⟨fun a b h => by
  have h := Int.emod_eq_zero_of_dvd h
  rw [Int.mul_emod] at h
  have ha : a % 5 = 0 ∨ a % 5 = 1 ∨ a % 5 = 2 ∨ a % 5 = 3 ∨ a % 5 = 4 := by omega
  have hb : b % 5 = 0 ∨ b % 5 = 1 ∨ b % 5 = 2 ∨ b % 5 = 3 ∨ b % 5 = 4 := by omega
  rcases ha with e | e | e | e | e <;> rcases hb with f | f | f | f | f <;> simp [e, f] at h <;> omega, by decide, by decide⟩
theorem hole3 (a b c d : Int) : 3 ∣ a - b ∨ 3 ∣ a - c ∨ 3 ∣ a - d ∨ 3 ∣ b - c ∨ 3 ∣ b - d ∨ 3 ∣ c - d := by omega
theorem perm5 : ∀ a b c d e : Fin 5, a ≠ b → a ≠ c → a ≠ d → a ≠ e → b ≠ c → b ≠ d → b ≠ e → c ≠ d → c ≠ e → d ≠ e → ∀ r, r = a ∨ r = b ∨ r = c ∨ r = d ∨ r = e := by decide +kernel
def f5 (x : Int) : Fin 5 := ⟨(x % 5).toNat, by omega⟩
theorem f5_ne {x y : Int} (h : ¬ 5 ∣ x - y) : f5 x ≠ f5 y := by
  intro e
  have := congrArg Fin.val e
  simp only [f5] at this
  omega
theorem f5_eq {r : Fin 5} {x : Int} (h : r = f5 x) : x % 5 = (r.val : Int) := by
  rw [h]; simp only [f5]; omega
/-- Five integers, no two of them alike modulo 5: every residue is among them. -/
theorem all5 {a b c d e : Int} (h : ¬ (5 ∣ a - b ∨ 5 ∣ a - c ∨ 5 ∣ a - d ∨ 5 ∣ a - e ∨ 5 ∣ b - c ∨ 5 ∣ b - d ∨ 5 ∣ b - e ∨ 5 ∣ c - d ∨ 5 ∣ c - e ∨ 5 ∣ d - e)) (P : Int → Prop) (ha : P (a % 5)) (hb : P (b % 5)) (hc : P (c % 5)) (hd : P (d % 5)) (he : P (e % 5)) :
    P 0 ∧ P 1 ∧ P 2 ∧ P 3 ∧ P 4 := by
  simp only [not_or] at h
  obtain ⟨h1, h2, h3, h4, h5, h6, h7, h8, h9, h10⟩ := h
  have key := perm5 (f5 a) (f5 b) (f5 c) (f5 d) (f5 e) (f5_ne h1) (f5_ne h2) (f5_ne h3) (f5_ne h4) (f5_ne h5) (f5_ne h6) (f5_ne h7) (f5_ne h8) (f5_ne h9) (f5_ne h10)
  have get : ∀ r : Fin 5, P (r.val : Int) := by
    intro r
    rcases key r with g | g | g | g | g
    · rw [← f5_eq g]; exact ha
    · rw [← f5_eq g]; exact hb
    · rw [← f5_eq g]; exact hc
    · rw [← f5_eq g]; exact hd
    · rw [← f5_eq g]; exact he
  exact ⟨get 0, get 1, get 2, get 3, get 4⟩
theorem cub5 : ∀ A B : Fin 5, ¬ ∀ x : Fin 5, (x.val * x.val * x.val + A.val * x.val + B.val) % 5 = 1 ∨ (x.val * x.val * x.val + A.val * x.val + B.val) % 5 = 4 := by decide +kernel
theorem qud5 : ∀ A B C : Fin 5, (∀ x : Fin 5, (A.val * x.val * x.val + B.val * x.val + C.val) % 5 = 1 ∨ (A.val * x.val * x.val + B.val * x.val + C.val) % 5 = 4) → A = 0 := by decide +kernel
theorem sq5 {y : Int} (h : ¬ 5 ∣ y) : (y * y) % 5 = 1 ∨ (y * y) % 5 = 4 := by
  rw [Int.mul_emod]
  have ha : y % 5 = 1 ∨ y % 5 = 2 ∨ y % 5 = 3 ∨ y % 5 = 4 := by omega
  rcases ha with e | e | e | e <;> rw [e] <;> decide
theorem cubmod (A B x : Int) : (x * x * x + A * x + B) % 5 = ((x % 5) * (x % 5) * (x % 5) + (A % 5) * (x % 5) + B % 5) % 5 := by simp [Int.add_emod, Int.mul_emod]
theorem qudmod (A B C x : Int) : (A * x * x + B * x + C) % 5 = ((A % 5) * (x % 5) * (x % 5) + (B % 5) * (x % 5) + C % 5) % 5 := by simp [Int.add_emod, Int.mul_emod]
theorem cub5' {A B : Int} (h : ∀ x : Int, (x = 0 ∨ x = 1 ∨ x = 2 ∨ x = 3 ∨ x = 4) → (x * x * x + (A % 5) * x + B % 5) % 5 = 1 ∨ (x * x * x + (A % 5) * x + B % 5) % 5 = 4) : False := by
  refine cub5 (f5 A) (f5 B) fun x => ?_
  have := h (x.val : Int) (by omega)
  have e1 : A % 5 = ((f5 A).val : Int) := f5_eq rfl
  have e2 : B % 5 = ((f5 B).val : Int) := f5_eq rfl
  rw [e1, e2] at this
  have c : ((x.val : Int) * (x.val : Int) * (x.val : Int) + ((f5 A).val : Int) * (x.val : Int) + ((f5 B).val : Int)) % 5 = (((x.val * x.val * x.val + (f5 A).val * x.val + (f5 B).val) % 5 : Nat) : Int) := by simp
  rw [c] at this
  omega
theorem qud5' {A B C : Int} (h : ∀ x : Int, (x = 0 ∨ x = 1 ∨ x = 2 ∨ x = 3 ∨ x = 4) → ((A % 5) * x * x + (B % 5) * x + C % 5) % 5 = 1 ∨ ((A % 5) * x * x + (B % 5) * x + C % 5) % 5 = 4) : 5 ∣ A := by
  have key := qud5 (f5 A) (f5 B) (f5 C) (fun x => by
    have := h (x.val : Int) (by omega)
    have e1 : A % 5 = ((f5 A).val : Int) := f5_eq rfl
    have e2 : B % 5 = ((f5 B).val : Int) := f5_eq rfl
    have e3 : C % 5 = ((f5 C).val : Int) := f5_eq rfl
    rw [e1, e2, e3] at this
    have c : (((f5 A).val : Int) * (x.val : Int) * (x.val : Int) + ((f5 B).val : Int) * (x.val : Int) + ((f5 C).val : Int)) % 5 = ((((f5 A).val * x.val * x.val + (f5 B).val * x.val + (f5 C).val) % 5 : Nat) : Int) := by simp
    rw [c] at this
    omega)
  have e1 : A % 5 = ((f5 A).val : Int) := f5_eq rfl
  rw [key] at e1
  exact Int.dvd_of_emod_eq_zero e1
section
variable {a2 a4 a6 A B : Int} {x y : Nat → Int}
/-- Modulo 3 there are not enough first coordinates. -/
theorem Fam.three (h : Fam a2 a4 a6 x y) : ∀ j, 1 ≤ j → j ≤ 10 → 3 ∣ y j := by
  have go : ∀ i j, 1 ≤ i → i ≤ 5 → 1 ≤ j → j ≤ 5 → i ≠ j → 3 ∣ x i - x j → ∀ j, 1 ≤ j → j ≤ 10 → 3 ∣ y j := fun i j h1 h2 h3 h4 h5 hd =>
    h.allY prm3 h1 (by omega) (h.dvd_y prm3 h1 (by omega) h3 (by omega) h5 (by omega) hd)
  rcases hole3 (x 1) (x 2) (x 3) (x 4) with g | g | g | g | g | g
  · exact go 1 2 (by omega) (by omega) (by omega) (by omega) (by omega) g
  · exact go 1 3 (by omega) (by omega) (by omega) (by omega) (by omega) g
  · exact go 1 4 (by omega) (by omega) (by omega) (by omega) (by omega) g
  · exact go 2 3 (by omega) (by omega) (by omega) (by omega) (by omega) g
  · exact go 2 4 (by omega) (by omega) (by omega) (by omega) (by omega) g
  · exact go 3 4 (by omega) (by omega) (by omega) (by omega) (by omega) g
theorem Fam.disc3 (h : Fam a2 a4 a6 x y) : 81 ∣ disc a2 a4 a6 := by
  have hall := h.three
  have near : ∀ j, 1 ≤ j → j ≤ 10 → 3 ∣ x j - x 1 := (h.near prm3 hall (show 1 ≤ 1 by omega) (by omega)).2.2
  obtain ⟨t2, k2⟩ := near 2 (by omega) (by omega); obtain ⟨t3, k3⟩ := near 3 (by omega) (by omega); obtain ⟨t4, k4⟩ := near 4 (by omega) (by omega)
  have go : ∀ i j, 1 ≤ i → i ≤ 5 → 1 ≤ j → j ≤ 5 → i ≠ j → (3 : Int) * 3 ∣ x i - x j → 81 ∣ disc a2 a4 a6 := fun i j h1 h2 h3 h4 h5 hd =>
    h.close prm3 h1 (by omega) h3 (by omega) h5 (by omega) hd
  rcases hole3 0 t2 t3 t4 with ⟨g, e⟩ | ⟨g, e⟩ | ⟨g, e⟩ | ⟨g, e⟩ | ⟨g, e⟩ | ⟨g, e⟩
  · exact go 1 2 (by omega) (by omega) (by omega) (by omega) (by omega) ⟨g, by omega⟩
  · exact go 1 3 (by omega) (by omega) (by omega) (by omega) (by omega) ⟨g, by omega⟩
  · exact go 1 4 (by omega) (by omega) (by omega) (by omega) (by omega) ⟨g, by omega⟩
  · exact go 2 3 (by omega) (by omega) (by omega) (by omega) (by omega) ⟨g, by omega⟩
  · exact go 2 4 (by omega) (by omega) (by omega) (by omega) (by omega) ⟨g, by omega⟩
  · exact go 3 4 (by omega) (by omega) (by omega) (by omega) (by omega) ⟨g, by omega⟩
theorem pick5 {Q : Nat → Nat → Prop} (a b c d e : Int) (f : Nat → Int) (ha : f 1 = a) (hb : f 2 = b) (hc : f 3 = c) (hd : f 4 = d) (he : f 5 = e) (go : ∀ i j, 1 ≤ i → i ≤ 5 → 1 ≤ j → j ≤ 5 → i ≠ j → 5 ∣ f i - f j → Q i j)
    (h : 5 ∣ a - b ∨ 5 ∣ a - c ∨ 5 ∣ a - d ∨ 5 ∣ a - e ∨ 5 ∣ b - c ∨ 5 ∣ b - d ∨ 5 ∣ b - e ∨ 5 ∣ c - d ∨ 5 ∣ c - e ∨ 5 ∣ d - e) : ∃ i j, 1 ≤ i ∧ i ≤ 5 ∧ 1 ≤ j ∧ j ≤ 5 ∧ i ≠ j ∧ Q i j := by
  subst ha hb hc hd he
  rcases h with g | g | g | g | g | g | g | g | g | g
  · exact ⟨1, 2, by omega, by omega, by omega, by omega, by omega, go 1 2 (by omega) (by omega) (by omega) (by omega) (by omega) g⟩
  · exact ⟨1, 3, by omega, by omega, by omega, by omega, by omega, go 1 3 (by omega) (by omega) (by omega) (by omega) (by omega) g⟩
  · exact ⟨1, 4, by omega, by omega, by omega, by omega, by omega, go 1 4 (by omega) (by omega) (by omega) (by omega) (by omega) g⟩
  · exact ⟨1, 5, by omega, by omega, by omega, by omega, by omega, go 1 5 (by omega) (by omega) (by omega) (by omega) (by omega) g⟩
  · exact ⟨2, 3, by omega, by omega, by omega, by omega, by omega, go 2 3 (by omega) (by omega) (by omega) (by omega) (by omega) g⟩
  · exact ⟨2, 4, by omega, by omega, by omega, by omega, by omega, go 2 4 (by omega) (by omega) (by omega) (by omega) (by omega) g⟩
  · exact ⟨2, 5, by omega, by omega, by omega, by omega, by omega, go 2 5 (by omega) (by omega) (by omega) (by omega) (by omega) g⟩
  · exact ⟨3, 4, by omega, by omega, by omega, by omega, by omega, go 3 4 (by omega) (by omega) (by omega) (by omega) (by omega) g⟩
  · exact ⟨3, 5, by omega, by omega, by omega, by omega, by omega, go 3 5 (by omega) (by omega) (by omega) (by omega) (by omega) g⟩
  · exact ⟨4, 5, by omega, by omega, by omega, by omega, by omega, go 4 5 (by omega) (by omega) (by omega) (by omega) (by omega) g⟩
theorem Fam.five (h : Fam 0 A B x y) : ∀ j, 1 ≤ j → j ≤ 10 → 5 ∣ y j := by
  have go : ∀ i, 1 ≤ i → i ≤ 10 → 5 ∣ y i → ∀ j, 1 ≤ j → j ≤ 10 → 5 ∣ y j := fun i h1 h2 hd => h.allY prm5 h1 h2 hd
  by_cases hp : 5 ∣ x 1 - x 2 ∨ 5 ∣ x 1 - x 3 ∨ 5 ∣ x 1 - x 4 ∨ 5 ∣ x 1 - x 5 ∨ 5 ∣ x 2 - x 3 ∨ 5 ∣ x 2 - x 4 ∨ 5 ∣ x 2 - x 5 ∨ 5 ∣ x 3 - x 4 ∨ 5 ∣ x 3 - x 5 ∨ 5 ∣ x 4 - x 5
  · obtain ⟨i, j, h1, h2, -, -, -, hq⟩ := pick5 (Q := fun i j => 5 ∣ y i) _ _ _ _ _ x rfl rfl rfl rfl rfl (fun i j h1 h2 h3 h4 h5 hd => h.dvd_y prm5 h1 (by omega) h3 (by omega) h5 (by omega) hd) hp
    exact go i h1 (by omega) hq
  apply Classical.byContradiction
  intro hno
  have hy : ∀ i, 1 ≤ i → i ≤ 10 → ¬ 5 ∣ y i := fun i h1 h2 hd => hno (go i h1 h2 hd)
  have val : ∀ i, 1 ≤ i → i ≤ 10 → ((x i % 5) * (x i % 5) * (x i % 5) + (A % 5) * (x i % 5) + B % 5) % 5 = 1 ∨ ((x i % 5) * (x i % 5) * (x i % 5) + (A % 5) * (x i % 5) + B % 5) % 5 = 4 := by
    intro i h1 h2
    rw [← cubmod]
    have := h.on i h1 h2
    have e : x i * x i * x i + A * x i + B = y i * y i := by rw [this]; grind
    rw [e]; exact sq5 (hy i h1 h2)
  obtain ⟨p0, p1, p2, p3, p4⟩ := all5 hp (fun r => (r * r * r + (A % 5) * r + B % 5) % 5 = 1 ∨ (r * r * r + (A % 5) * r + B % 5) % 5 = 4) (val 1 (by omega) (by omega)) (val 2 (by omega) (by omega)) (val 3 (by omega) (by omega)) (val 4 (by omega) (by omega)) (val 5 (by omega) (by omega))
  exact cub5' (A := A) (B := B) (fun r hr => by rcases hr with rfl | rfl | rfl | rfl | rfl <;> assumption)
theorem Fam.disc5 (h : Fam 0 A B x y) : 625 ∣ disc 0 A B := by
  have hall := h.five
  obtain ⟨e0, ⟨b1, e1⟩, near⟩ := h.near prm5 hall (show 1 ≤ 1 by omega) (by omega)
  have hu : ∀ i, ∃ u v, 1 ≤ i → i ≤ 10 → x i - x 1 = 5 * u ∧ y i = 5 * v := by
    intro i
    by_cases g : 1 ≤ i ∧ i ≤ 10
    · obtain ⟨w, h1⟩ := near i g.1 g.2; obtain ⟨q, h2⟩ := hall i g.1 g.2
      exact ⟨w, q, fun _ _ => ⟨h1, h2⟩⟩
    · exact ⟨0, 0, fun h1 h2 => absurd ⟨h1, h2⟩ g⟩
  obtain ⟨u, hu⟩ := Classical.axiomOfChoice hu
  obtain ⟨v, hu⟩ := Classical.axiomOfChoice hu
  by_cases hp : 5 ∣ u 1 - u 2 ∨ 5 ∣ u 1 - u 3 ∨ 5 ∣ u 1 - u 4 ∨ 5 ∣ u 1 - u 5 ∨ 5 ∣ u 2 - u 3 ∨ 5 ∣ u 2 - u 4 ∨ 5 ∣ u 2 - u 5 ∨ 5 ∣ u 3 - u 4 ∨ 5 ∣ u 3 - u 5 ∨ 5 ∣ u 4 - u 5
  · obtain ⟨i, j, h1, h2, -, -, -, hq⟩ := pick5 (Q := fun i j => 625 ∣ disc 0 A B) _ _ _ _ _ u rfl rfl rfl rfl rfl (fun i j h1 h2 h3 h4 h5 ⟨t, ht⟩ => h.close prm5 h1 (by omega) h3 (by omega) h5 (by omega) ⟨t, by
      have g1 := (hu i h1 (by omega)).1; have g2 := (hu j h3 (by omega)).1; omega⟩) hp
    exact hq
  by_cases hv : ∃ i, 1 ≤ i ∧ i ≤ 10 ∧ 5 ∣ v i
  · obtain ⟨i, h1, h2, t, ht⟩ := hv
    exact h.deep prm5 h1 h2 ⟨t, by rw [(hu i h1 h2).2, ht]; grind⟩
  exfalso
  have hno : ∀ i, 1 ≤ i → i ≤ 10 → ¬ 5 ∣ v i := fun i h1 h2 hd => hv ⟨i, h1, h2, hd⟩
  have hs := h.shift (x 1)
  obtain ⟨b0, hb0⟩ : ∃ b0, F0 0 A B (x 1) = 25 * b0 := ⟨v 1 * v 1, by rw [e0, (hu 1 (by omega) (by omega)).2]; grind⟩
  rw [hb0, e1] at hs
  generalize hal : F2 0 (x 1) = al at *
  have eqn : ∀ i, 1 ≤ i → i ≤ 10 → v i * v i = 5 * (u i * u i * u i) + (al * u i * u i + b1 * u i + b0) := by
    intro i h1 h2
    have hh : y i * y i = (x i - x 1) * (x i - x 1) * (x i - x 1) + al * (x i - x 1) * (x i - x 1) + 5 * b1 * (x i - x 1) + 25 * b0 := hs.on i h1 h2
    have g := hu i h1 h2
    rw [g.1, g.2] at hh
    grind
  have val : ∀ i, 1 ≤ i → i ≤ 10 → ((al % 5) * (u i % 5) * (u i % 5) + (b1 % 5) * (u i % 5) + b0 % 5) % 5 = 1 ∨ ((al % 5) * (u i % 5) * (u i % 5) + (b1 % 5) * (u i % 5) + b0 % 5) % 5 = 4 := by
    intro i h1 h2
    rw [← qudmod]
    have e2 := sq5 (hno i h1 h2)
    rw [eqn i h1 h2] at e2
    omega
  obtain ⟨p0, p1, p2, p3, p4⟩ := all5 hp (fun r => ((al % 5) * r * r + (b1 % 5) * r + b0 % 5) % 5 = 1 ∨ ((al % 5) * r * r + (b1 % 5) * r + b0 % 5) % 5 = 4) (val 1 (by omega) (by omega)) (val 2 (by omega) (by omega)) (val 3 (by omega) (by omega)) (val 4 (by omega) (by omega)) (val 5 (by omega) (by omega))
  obtain ⟨a, ha⟩ := qud5' (A := al) (B := b1) (C := b0) (fun r hr => by rcases hr with rfl | rfl | rfl | rfl | rfl <;> assumption)
  have sl : ∀ j, 1 ≤ j → j ≤ 10 → 1 ≠ j → 1 + j ≠ 11 → ∃ m, y 1 - y j = 5 * m * (x 1 - x j) := by
    intro j h3 h4 h5 h6
    obtain ⟨l, c1, c2⟩ := h.chord 1 j (by omega) (by omega) h3 h4 h5 h6
    obtain ⟨t2, q2⟩ := near j h3 h4; obtain ⟨t3, q3⟩ := near ((1 + j) % 11) (by omega) (by omega)
    have hal' : 3 * x 1 = al := by rw [← hal]; unfold F2; omega
    obtain ⟨m, rfl⟩ := prm5.sq (a := l) ⟨a + t2 + t3, by omega⟩
    exact ⟨m, c1⟩
  obtain ⟨m, f1⟩ := sl 2 (by omega) (by omega) (by omega) (by omega)
  obtain ⟨n, f2⟩ := sl 9 (by omega) (by omega) (by omega) (by omega)
  have o1 := h.opx 2 (by omega) (by omega); have o2 := h.opy 2 (by omega) (by omega)
  simp only [Nat.reduceSub] at o1 o2
  rw [o1, o2] at f2
  have g1 := hu 1 (by omega) (by omega); have g2 := hu 2 (by omega) (by omega)
  refine hno 1 (by omega) (by omega) (prm5.both (b := v 2) ⟨-(m * u 2), ?_⟩ ⟨-(n * u 2), ?_⟩)
  · have : x 1 - x 2 = -(5 * u 2) := by omega
    rw [this, g1.2, g2.2] at f1
    have : 5 * (v 1 - v 2) = 5 * (5 * -(m * u 2)) := by grind
    omega
  · have : x 1 - x 2 = -(5 * u 2) := by omega
    rw [this, g1.2, g2.2] at f2
    have : 5 * (v 1 + v 2) = 5 * (5 * -(n * u 2)) := by grind
    omega
theorem fin11 {P Q k k5 : Int} (e : -(4 * P + 27 * Q) = 3 * 3 * 3 * 3 * 3 * 3 * 3 * 3 * 3 * 3 * 3 * 3 * (81 * k)) (hk5 : -(4 * P + 27 * Q) = 625 * k5) (hd : 4 * P + 27 * Q ≠ 0) (bA : -1000000000 ≤ P ∧ P ≤ 1000000000) (bB : -100000000 ≤ Q ∧ Q ≤ 100000000) : False := by
  have e2 : -(4 * P + 27 * Q) = 43046721 * k := by rw [e]; grind
  clear e
  omega
/-- No point of order 11 on a curve of the program's size. -/
theorem no_eleven (h : Fam 0 A B x y) (hA : -1000 ≤ A) (hA2 : A ≤ 1000) (hB : -10000 ≤ B) (hB2 : B ≤ 10000) (hd : 4 * A * A * A + 27 * B * B ≠ 0) : False := by
  have h5 := h.disc5
  obtain ⟨b2, b4, b6, u, v, g, e⟩ := h.cusp prm3 h.three ⟨x 1, by unfold F2; omega⟩
  have h3 := g.disc3
  have e2 : disc 0 A B = -(4 * A * A * A + 27 * B * B) := by unfold disc; grind
  obtain ⟨k, hk⟩ := h3
  rw [hk] at e
  rw [e2] at e h5
  obtain ⟨k5, hk5⟩ := h5
  have bA : -1000000000 ≤ A * A * A ∧ A * A * A ≤ 1000000000 := by
    have h1 : (A * A).natAbs ≤ 1000000 := by
      rw [Int.natAbs_mul]; have := Nat.mul_le_mul (show A.natAbs ≤ 1000 by omega) (show A.natAbs ≤ 1000 by omega); omega
    have h2 : (A * A * A).natAbs ≤ 1000000000 := by
      rw [Int.natAbs_mul]; have := Nat.mul_le_mul h1 (show A.natAbs ≤ 1000 by omega); omega
    omega
  have bB : -100000000 ≤ B * B ∧ B * B ≤ 100000000 := by
    have h1 : (B * B).natAbs ≤ 100000000 := by
      rw [Int.natAbs_mul]; have := Nat.mul_le_mul (show B.natAbs ≤ 10000 by omega) (show B.natAbs ≤ 10000 by omega); omega
    omega
  have e4 : 4 * A * A * A + 27 * B * B = 4 * (A * A * A) + 27 * (B * B) := by grind
  rw [e4] at e hk5 hd
  exact fin11 e hk5 hd bA bB
end
end N11
theorem toQ_one (x y : Int) : EC.toQ (x, y, 1) = some ((x : Rat), (y : Rat)) := by
  have h : (1 : Rat)⁻¹ = 1 := by grind
  unfold EC.toQ
  rw [if_neg (by simp)]
  simp [h]
theorem icast {a b : Int} (h : (a : Rat) = (b : Rat)) : a = b := Rat.intCast_inj.1 h
theorem ord_ne11 {A B : Int} (hC : isC A B = true) {p : P3} (hp : EC.PV A B p) (h : (ordV A p).2 = true) : (ordV A p).1 ≠ 11 := by
  intro e11
  obtain ⟨n, T⟩ := tor_of hp h
  have hn : n = 11 := by have := T.ord; omega
  subst hn
  have hns := disc_ne0 hC
  have ns := EC.disc_ne hns
  have hq : ∀ j, ∃ q : P3, 1 ≤ j → j ≤ 10 → mulO A p j = some q ∧ EC.PV A B q ∧ EC.toQ q = EC.nmul (A : Rat) j (EC.toQ p) ∧ q.2.2 = 1 := by
    intro j
    by_cases g : 1 ≤ j ∧ j ≤ 10
    · obtain ⟨q, h1, h2, h3⟩ := T.some_ (j := j) (by omega)
      obtain ⟨q', h1', h4⟩ := T.mid j (by omega) (by omega)
      rw [h1] at h1'; obtain rfl := Option.some.inj h1'
      refine ⟨q, fun _ _ => ⟨h1, h2, h3, ?_⟩⟩
      have hm := T.mem hC h1
      obtain ⟨L, hL, hc⟩ := tps_zero A B
      rw [hL] at hm
      rcases List.mem_cons.1 hm with rfl | hm
      · exact absurd rfl h4
      · exact cds_E (hc q hm)
    · exact ⟨(0, 0, 0), fun h1 h2 => absurd ⟨h1, h2⟩ g⟩
  obtain ⟨q, hq⟩ := Classical.axiomOfChoice hq
  have hN : ∀ j, 1 ≤ j → j ≤ 10 → EC.nmul (A : Rat) j (EC.toQ p) = some (((q j).1 : Rat), ((q j).2.1 : Rat)) := by
    intro j h1 h2
    obtain ⟨-, -, h3, h4⟩ := hq j h1 h2
    rw [← h3, ← toQ_one]
    congr 1
    rw [← h4]
  have hon : ∀ j, 1 ≤ j → j ≤ 10 → EC.On (A : Rat) B ((q j).1 : Rat) ((q j).2.1 : Rat) := by
    intro j h1 h2
    have := EC.nmul_on EC.two_rat hp.on j
    rw [hN j h1 h2] at this
    exact this
  have hadd : ∀ i j, 1 ≤ i → i ≤ 10 → 1 ≤ j → j ≤ 10 → i + j ≠ 11 → EC.add (A : Rat) (some (((q i).1 : Rat), ((q i).2.1 : Rat))) (some (((q j).1 : Rat), ((q j).2.1 : Rat))) = some (((q ((i + j) % 11)).1 : Rat), ((q ((i + j) % 11)).2.1 : Rat)) := by
    intro i j h1 h2 h3 h4 h5
    rw [← hN i h1 h2, ← hN j h3 h4, ← hN ((i + j) % 11) (by omega) (by omega), ← EC.nmul_add EC.two_rat ns hp.on]
    by_cases g : i + j < 11
    · rw [Nat.mod_eq_of_lt g]
    · have e : i + j = 11 + (i + j) % 11 := by omega
      have e2 := EC.nmul_add EC.two_rat ns hp.on 11 ((i + j) % 11)
      rw [T.nfin, EC.zero_add, ← e] at e2
      exact e2
  have hopp : ∀ i, 1 ≤ i → i ≤ 10 → (q (11 - i)).1 = (q i).1 ∧ (q (11 - i)).2.1 = -(q i).2.1 := by
    intro i h1 h2
    have e2 := EC.nmul_add EC.two_rat ns hp.on i (11 - i)
    rw [show i + (11 - i) = 11 by omega, T.nfin, hN i h1 h2, hN (11 - i) (by omega) (by omega)] at e2
    rcases EC.add_cases EC.two_rat (hon i h1 h2) (hon (11 - i) (by omega) (by omega)) with ⟨g1, g2, -⟩ | ⟨-, x3, y3, g, -⟩
    · exact ⟨icast g1, icast (by rw [g2, Rat.intCast_neg])⟩
    · rw [← e2] at g; cases g
  have hsum : ∀ i j, 1 ≤ i → i ≤ 10 → 1 ≤ j → j ≤ 10 → i + j ≠ 11 → ∃ m : Int, (m * ((q j).1 - (q i).1) = (q j).2.1 - (q i).2.1 ∧ (q j).1 ≠ (q i).1 ∨ (q j).1 = (q i).1 ∧ (q j).2.1 = (q i).2.1 ∧ m * (2 * (q i).2.1) = 3 * (q i).1 * (q i).1 + A) ∧ m * m = (q ((i + j) % 11)).1 + (q i).1 + (q j).1 := by
    intro i j h1 h2 h3 h4 h5
    rcases EC.add_cases EC.two_rat (hon i h1 h2) (hon j h3 h4) with ⟨-, -, g⟩ | ⟨-, x3, y3, g, l, hl, g1, -⟩
    · rw [hadd i j h1 h2 h3 h4 h5] at g; cases g
    · rw [hadd i j h1 h2 h3 h4 h5] at g
      simp only [Option.some.injEq, Prod.mk.injEq] at g
      rw [← g.1] at g1
      have e3 : l * l = (((q ((i + j) % 11)).1 + (q i).1 + (q j).1 : Int) : Rat) := by
        rw [Rat.intCast_add, Rat.intCast_add, g1]; grind
      obtain ⟨m, rfl, hm⟩ := EC.rat_sq_int e3
      refine ⟨m, ?_, hm⟩
      rcases hl with ⟨k1, k2⟩ | ⟨k1, k2, -, k4⟩
      · refine .inl ⟨icast ?_, fun h => k1 (by rw [h]; grind)⟩
        rw [Rat.intCast_mul, Rat.intCast_sub, Rat.intCast_sub]; exact k2
      · refine .inr ⟨icast k1, icast k2, icast ?_⟩
        simp only [Rat.intCast_mul, Rat.intCast_add]
        exact k4
  have hne : ∀ i j, 1 ≤ i → i ≤ 10 → 1 ≤ j → j ≤ 10 → i ≠ j → ¬ ((q j).1 = (q i).1 ∧ (q j).2.1 = (q i).2.1) := by
    intro i j h1 h2 h3 h4 h5 ⟨k1, k2⟩
    have e : q j = q i := by
      obtain ⟨-, -, -, f1⟩ := hq i h1 h2; obtain ⟨-, -, -, f2⟩ := hq j h3 h4
      exact Prod.ext k1 (Prod.ext k2 (by rw [f1, f2]))
    have e2 : mulO A p i = mulO A p j := by rw [(hq i h1 h2).1, (hq j h3 h4).1, e]
    rcases Nat.lt_or_gt_of_ne h5 with g | g
    · exact T.inj hC g (by omega) (.inl (by omega)) e2
    · exact T.inj hC g (by omega) (.inl (by omega)) e2.symm
  obtain ⟨hA1, hA2, hB1, hB2, -⟩ := isC_ff hC
  refine N11.no_eleven (A := A) (B := B) (x := fun i => (q i).1) (y := fun i => (q i).2.1) ⟨fun i h1 h2 => ?_, fun i h1 h2 => (hopp i h1 h2).1, fun i h1 h2 => (hopp i h1 h2).2, fun i j h1 h2 h3 h4 h5 h6 => ?_, fun i h1 h2 => ?_⟩ hA1 hA2 hB1 hB2 hns
  · have := hon i h1 h2
    unfold EC.On at this
    have e : ((((q i).2.1 * (q i).2.1 : Int)) : Rat) = (((q i).1 * (q i).1 * (q i).1 + 0 * (q i).1 * (q i).1 + A * (q i).1 + B : Int) : Rat) := by
      simp only [Rat.intCast_mul, Rat.intCast_add]; rw [this]; grind
    exact icast e
  · obtain ⟨m, hm, hm2⟩ := hsum i j h1 h2 h3 h4 h6
    rcases hm with ⟨k1, -⟩ | ⟨k1, k2, -⟩
    · exact ⟨m, by grind, by rw [hm2]; grind⟩
    · exact absurd ⟨k1, k2⟩ (hne i j h1 h2 h3 h4 h5)
  · obtain ⟨m, hm, hm2⟩ := hsum i i h1 h2 h1 h2 (by omega)
    rcases hm with ⟨-, k⟩ | ⟨-, -, k⟩
    · exact absurd rfl k
    · exact ⟨m, by grind, by rw [hm2]; grind⟩
/-! ### multiples of points, of both signs -/
theorem name_worldM {P : Program} {f : FuncId} {args : Array Value} {W : World} {Q : Ending → World → Prop} (h : ∀ V, V = W → Calls P f args V Q) : Calls P f args W Q := h W rfl
theorem PV_ptBM {a b x y e : Int} (hC : isC a b = true) (h : EC.PV a b (x, y, e)) : ptB a b x y e = true := by
  unfold ptB
  rw [hC, Bool.true_and]
  rcases h with h | ⟨h1, h2, h3, h4, h5, h6⟩
  · simp only [Prod.mk.injEq] at h
    simp [h.1, h.2.1, h.2.2]
  · simp only at h1 h2 h3 h4 h5 h6
    rw [inB_t h1 h2, inB_t h3 h4, decide_eq_true h5, decide_eq_true h6]
    simp
end Go.Proofs.YtjgdajeoeagggaaGreat
