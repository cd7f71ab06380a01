import Derived.Handy
import Derived.Test.YtjgdajeoeagggaaGreatYPon
import Derived.Test.YtjgdajeoeagggaaGreatYK5
import Derived.Test.YtjgdajeoeagggaaGreatYK7
set_option linter.unusedVariables false
set_option linter.unusedSimpArgs false
namespace Go.Proofs.YtjgdajeoeagggaaGreat.EC
open Go.Proofs.YtjgdajeoeagggaaGreat
/-! the sums of points of a curve as a relation; associativity, case by case; the group; torsion points have whole coordinates -/
/-- The line with the slope l through the points (the tangent, if they are one) meets the curve again; r is the opposite of that point. -/
def Sum (a x1 y1 x2 y2 x3 y3 : Rat) : Prop := ∃ l, ((x2 - x1 ≠ 0 ∧ l * (x2 - x1) = y2 - y1) ∨ (x2 = x1 ∧ y2 = y1 ∧ y1 ≠ 0 ∧ l * (2 * y1) = 3 * x1 * x1 + a)) ∧ x3 = l * l - x1 - x2 ∧ y3 = l * (x1 - x3) - y1
def On (a b x y : Rat) : Prop := y * y = x * x * x + a * x + b
theorem sum_on {a b x1 y1 x2 y2 x3 y3 : Rat} (two : (2 : Rat) ≠ 0) (h1 : On a b x1 y1) (h2 : On a b x2 y2) (h : Sum a x1 y1 x2 y2 x3 y3) : On a b x3 y3 := by
  obtain ⟨l, hl | hl, e3, f3⟩ := h
  · obtain ⟨n, hl⟩ := hl; unfold On at *; grind
  · obtain ⟨rfl, rfl, n, hl⟩ := hl; unfold On at *; grind
theorem sum_comm {a x1 y1 x2 y2 x3 y3 : Rat} (h : Sum a x1 y1 x2 y2 x3 y3) : Sum a x2 y2 x1 y1 x3 y3 := by
  obtain ⟨l, hl | hl, e3, f3⟩ := h
  · obtain ⟨n, hl⟩ := hl; exact ⟨l, .inl ⟨by grind, by grind⟩, by grind, by grind⟩
  · obtain ⟨rfl, rfl, n, hl⟩ := hl; exact ⟨l, .inr ⟨rfl, rfl, n, hl⟩, by grind, by grind⟩
theorem sum_neg {a x1 y1 x2 y2 x3 y3 : Rat} (h : Sum a x1 y1 x2 y2 x3 y3) : Sum a x1 (-y1) x2 (-y2) x3 (-y3) := by
  obtain ⟨l, hl | hl, e3, f3⟩ := h
  · obtain ⟨n, hl⟩ := hl; exact ⟨-l, .inl ⟨n, by grind⟩, by grind, by grind⟩
  · obtain ⟨rfl, rfl, n, hl⟩ := hl; exact ⟨-l, .inr ⟨rfl, rfl, by grind, by grind⟩, by grind, by grind⟩
theorem sum_ne {a b x1 y1 x2 y2 x3 y3 : Rat} (two : (2 : Rat) ≠ 0) (ns : 4 * a * a * a + 27 * b * b ≠ 0) (h1 : On a b x1 y1) (h2 : On a b x2 y2) (h : Sum a x1 y1 x2 y2 x3 y3) : ¬ (x3 = x2 ∧ y3 = y2) := by
  rintro ⟨g1, g2⟩
  obtain ⟨l, hl | hl, e3, f3⟩ := h
  · obtain ⟨n, hl⟩ := hl
    unfold On at *
    have y0 : y2 = 0 := by grind
    have t0 : 3 * x2 * x2 + a = 0 := by grind
    grind
  · obtain ⟨rfl, rfl, n, hl⟩ := hl; unfold On at *; grind
theorem sum_back {a b x1 y1 x2 y2 x3 y3 : Rat} (two : (2 : Rat) ≠ 0) (ns : 4 * a * a * a + 27 * b * b ≠ 0) (h1 : On a b x1 y1) (h2 : On a b x2 y2) (h : Sum a x1 y1 x2 y2 x3 y3) : Sum a x3 y3 x2 (-y2) x1 y1 := by
  have hn := sum_ne two ns h1 h2 h
  have h3 := sum_on two h1 h2 h
  obtain ⟨l, hl | hl, e3, f3⟩ := h
  · obtain ⟨n, hl⟩ := hl
    refine ⟨-l, ?_, by grind, by grind⟩
    by_cases g : x2 - x3 = 0
    · right
      have g1 : x2 = x3 := by grind
      have g2 : y3 = -y2 := by unfold On at *; grind
      refine ⟨g1, g2.symm, ?_, ?_⟩
      · intro g3; apply hn; constructor <;> grind
      · unfold On at *; grind
    · left; exact ⟨g, by grind⟩
  · obtain ⟨rfl, rfl, n, hl⟩ := hl
    refine ⟨-l, ?_, by grind, by grind⟩
    by_cases g : x2 - x3 = 0
    · right
      have g1 : x2 = x3 := by grind
      have g2 : y3 = -y2 := by unfold On at *; grind
      refine ⟨g1, g2.symm, ?_, ?_⟩
      · grind
      · unfold On at *; grind
    · left; exact ⟨g, by grind⟩
set_option maxHeartbeats 8000000 in
theorem as0x (x1 y1 x2 y2 x3 y3 a b l xs ys m xt yt k xu yu n xv yv : Rat) 
 (h1 : y1 * y1 = x1 * x1 * x1 + a * x1 + b) (h2 : y2 * y2 = x2 * x2 * x2 + a * x2 + b) (h3 : y3 * y3 = x3 * x3 * x3 + a * x3 + b)
 (ns : x2 - x1 ≠ 0) (hls : l * (x2 - x1) = y2 - y1) (e3 : xs = l * l - x1 - x2) (f3 : ys = l * (x1 - xs) - y1)
 (nst : x3 - xs ≠ 0) (hlst : m * (x3 - xs) = y3 - ys) (e4 : xt = m * m - xs - x3)
 (nt : x3 - x2 ≠ 0) (hlt : k * (x3 - x2) = y3 - y2) (e5 : xu = k * k - x2 - x3) (f5 : yu = k * (x2 - xu) - y2)
 (npt : xu - x1 ≠ 0) (hlpt : n * (xu - x1) = yu - y1) (e6 : xv = n * n - x1 - xu)
 : xt = xv := by
  grind (ringSteps := 1000000)
set_option maxHeartbeats 8000000 in
theorem as0y (x1 y1 x2 y2 x3 y3 a b l xs ys m xt yt k xu yu n xv yv : Rat) 
 (h1 : y1 * y1 = x1 * x1 * x1 + a * x1 + b) (h2 : y2 * y2 = x2 * x2 * x2 + a * x2 + b) (h3 : y3 * y3 = x3 * x3 * x3 + a * x3 + b)
 (ns : x2 - x1 ≠ 0) (hls : l * (x2 - x1) = y2 - y1) (e3 : xs = l * l - x1 - x2) (f3 : ys = l * (x1 - xs) - y1)
 (nst : x3 - xs ≠ 0) (hlst : m * (x3 - xs) = y3 - ys) (e4 : xt = m * m - xs - x3) (f4 : yt = m * (xs - xt) - ys)
 (nt : x3 - x2 ≠ 0) (hlt : k * (x3 - x2) = y3 - y2) (e5 : xu = k * k - x2 - x3) (f5 : yu = k * (x2 - xu) - y2)
 (npt : xu - x1 ≠ 0) (hlpt : n * (xu - x1) = yu - y1) (e6 : xv = n * n - x1 - xu) (f6 : yv = n * (x1 - xv) - y1)
 (hx : xt = xv) : yt = yv := by
  grind (ringSteps := 1000000)
set_option maxHeartbeats 8000000 in
theorem as2x (x1 y1 x2 y2 x3 y3 a b l xs ys m xt yt k xu yu n xv yv : Rat) (two : (2:Rat) ≠ 0)
 (h1 : y1 * y1 = x1 * x1 * x1 + a * x1 + b) (h2 : y2 * y2 = x2 * x2 * x2 + a * x2 + b) (h3 : y3 * y3 = x3 * x3 * x3 + a * x3 + b)
 (ns : x2 - x1 ≠ 0) (hls : l * (x2 - x1) = y2 - y1) (e3 : xs = l * l - x1 - x2) (f3 : ys = l * (x1 - xs) - y1)
 (nst : x3 - xs ≠ 0) (hlst : m * (x3 - xs) = y3 - ys) (e4 : xt = m * m - xs - x3)
 (gt : x3 = x2) (gt' : y3 = y2) (nt : y2 ≠ 0) (hlt : k * (2*y2) = 3*x2*x2+a) (e5 : xu = k * k - x2 - x3) (f5 : yu = k * (x2 - xu) - y2)
 (npt : xu - x1 ≠ 0) (hlpt : n * (xu - x1) = yu - y1) (e6 : xv = n * n - x1 - xu)
 : xt = xv := by
  grind (ringSteps := 1000000)
set_option maxHeartbeats 8000000 in
theorem as2y (x1 y1 x2 y2 x3 y3 a b l xs ys m xt yt k xu yu n xv yv : Rat) (two : (2:Rat) ≠ 0)
 (h1 : y1 * y1 = x1 * x1 * x1 + a * x1 + b) (h2 : y2 * y2 = x2 * x2 * x2 + a * x2 + b) (h3 : y3 * y3 = x3 * x3 * x3 + a * x3 + b)
 (ns : x2 - x1 ≠ 0) (hls : l * (x2 - x1) = y2 - y1) (e3 : xs = l * l - x1 - x2) (f3 : ys = l * (x1 - xs) - y1)
 (nst : x3 - xs ≠ 0) (hlst : m * (x3 - xs) = y3 - ys) (e4 : xt = m * m - xs - x3) (f4 : yt = m * (xs - xt) - ys)
 (gt : x3 = x2) (gt' : y3 = y2) (nt : y2 ≠ 0) (hlt : k * (2*y2) = 3*x2*x2+a) (e5 : xu = k * k - x2 - x3) (f5 : yu = k * (x2 - xu) - y2)
 (npt : xu - x1 ≠ 0) (hlpt : n * (xu - x1) = yu - y1) (e6 : xv = n * n - x1 - xu) (f6 : yv = n * (x1 - xv) - y1)
 (hx : xt = xv) : yt = yv := by
  grind (ringSteps := 1000000)
set_option maxHeartbeats 8000000 in
theorem as3x (x1 y1 x2 y2 x3 y3 a b l xs ys m xt yt k xu yu n xv yv : Rat) (two : (2:Rat) ≠ 0)
 (h1 : y1 * y1 = x1 * x1 * x1 + a * x1 + b) (h2 : y2 * y2 = x2 * x2 * x2 + a * x2 + b) (h3 : y3 * y3 = x3 * x3 * x3 + a * x3 + b)
 (gs : x2 = x1) (gs' : y2 = y1) (ns : y1 ≠ 0) (hls : l * (2*y1) = 3*x1*x1+a) (e3 : xs = l * l - x1 - x2) (f3 : ys = l * (x1 - xs) - y1)
 (nst : x3 - xs ≠ 0) (hlst : m * (x3 - xs) = y3 - ys) (e4 : xt = m * m - xs - x3)
 (gt : x3 = x2) (gt' : y3 = y2) (nt : y2 ≠ 0) (hlt : k * (2*y2) = 3*x2*x2+a) (e5 : xu = k * k - x2 - x3) (f5 : yu = k * (x2 - xu) - y2)
 (npt : xu - x1 ≠ 0) (hlpt : n * (xu - x1) = yu - y1) (e6 : xv = n * n - x1 - xu)
 : xt = xv := by
  grind (ringSteps := 1000000)
set_option maxHeartbeats 8000000 in
theorem as3y (x1 y1 x2 y2 x3 y3 a b l xs ys m xt yt k xu yu n xv yv : Rat) (two : (2:Rat) ≠ 0)
 (h1 : y1 * y1 = x1 * x1 * x1 + a * x1 + b) (h2 : y2 * y2 = x2 * x2 * x2 + a * x2 + b) (h3 : y3 * y3 = x3 * x3 * x3 + a * x3 + b)
 (gs : x2 = x1) (gs' : y2 = y1) (ns : y1 ≠ 0) (hls : l * (2*y1) = 3*x1*x1+a) (e3 : xs = l * l - x1 - x2) (f3 : ys = l * (x1 - xs) - y1)
 (nst : x3 - xs ≠ 0) (hlst : m * (x3 - xs) = y3 - ys) (e4 : xt = m * m - xs - x3) (f4 : yt = m * (xs - xt) - ys)
 (gt : x3 = x2) (gt' : y3 = y2) (nt : y2 ≠ 0) (hlt : k * (2*y2) = 3*x2*x2+a) (e5 : xu = k * k - x2 - x3) (f5 : yu = k * (x2 - xu) - y2)
 (npt : xu - x1 ≠ 0) (hlpt : n * (xu - x1) = yu - y1) (e6 : xv = n * n - x1 - xu) (f6 : yv = n * (x1 - xv) - y1)
 (hx : xt = xv) : yt = yv := by
  grind (ringSteps := 1000000)
set_option maxHeartbeats 8000000 in
theorem as4x (x1 y1 x2 y2 x3 y3 a b l xs ys m xt yt k xu yu n xv yv : Rat) (two : (2:Rat) ≠ 0)
 (h1 : y1 * y1 = x1 * x1 * x1 + a * x1 + b) (h2 : y2 * y2 = x2 * x2 * x2 + a * x2 + b) (h3 : y3 * y3 = x3 * x3 * x3 + a * x3 + b)
 (ns : x2 - x1 ≠ 0) (hls : l * (x2 - x1) = y2 - y1) (e3 : xs = l * l - x1 - x2) (f3 : ys = l * (x1 - xs) - y1)
 (gst : x3 = xs) (gst' : y3 = ys) (nst : ys ≠ 0) (hlst : m * (2*ys) = 3*xs*xs+a) (e4 : xt = m * m - xs - x3)
 (nt : x3 - x2 ≠ 0) (hlt : k * (x3 - x2) = y3 - y2) (e5 : xu = k * k - x2 - x3) (f5 : yu = k * (x2 - xu) - y2)
 (npt : xu - x1 ≠ 0) (hlpt : n * (xu - x1) = yu - y1) (e6 : xv = n * n - x1 - xu)
 : xt = xv := by
  grind (ringSteps := 1000000)
set_option maxHeartbeats 8000000 in
theorem as4y (x1 y1 x2 y2 x3 y3 a b l xs ys m xt yt k xu yu n xv yv : Rat) (two : (2:Rat) ≠ 0)
 (h1 : y1 * y1 = x1 * x1 * x1 + a * x1 + b) (h2 : y2 * y2 = x2 * x2 * x2 + a * x2 + b) (h3 : y3 * y3 = x3 * x3 * x3 + a * x3 + b)
 (ns : x2 - x1 ≠ 0) (hls : l * (x2 - x1) = y2 - y1) (e3 : xs = l * l - x1 - x2) (f3 : ys = l * (x1 - xs) - y1)
 (gst : x3 = xs) (gst' : y3 = ys) (nst : ys ≠ 0) (hlst : m * (2*ys) = 3*xs*xs+a) (e4 : xt = m * m - xs - x3) (f4 : yt = m * (xs - xt) - ys)
 (nt : x3 - x2 ≠ 0) (hlt : k * (x3 - x2) = y3 - y2) (e5 : xu = k * k - x2 - x3) (f5 : yu = k * (x2 - xu) - y2)
 (npt : xu - x1 ≠ 0) (hlpt : n * (xu - x1) = yu - y1) (e6 : xv = n * n - x1 - xu) (f6 : yv = n * (x1 - xv) - y1)
 (hx : xt = xv) : yt = yv := by
  grind (ringSteps := 1000000)
set_option maxHeartbeats 8000000 in
theorem as5x (x1 y1 x2 y2 x3 y3 a b l xs ys m xt yt k xu yu n xv yv : Rat) (two : (2:Rat) ≠ 0)
 (h1 : y1 * y1 = x1 * x1 * x1 + a * x1 + b) (h2 : y2 * y2 = x2 * x2 * x2 + a * x2 + b) (h3 : y3 * y3 = x3 * x3 * x3 + a * x3 + b)
 (gs : x2 = x1) (gs' : y2 = y1) (ns : y1 ≠ 0) (hls : l * (2*y1) = 3*x1*x1+a) (e3 : xs = l * l - x1 - x2) (f3 : ys = l * (x1 - xs) - y1)
 (gst : x3 = xs) (gst' : y3 = ys) (nst : ys ≠ 0) (hlst : m * (2*ys) = 3*xs*xs+a) (e4 : xt = m * m - xs - x3)
 (nt : x3 - x2 ≠ 0) (hlt : k * (x3 - x2) = y3 - y2) (e5 : xu = k * k - x2 - x3) (f5 : yu = k * (x2 - xu) - y2)
 (npt : xu - x1 ≠ 0) (hlpt : n * (xu - x1) = yu - y1) (e6 : xv = n * n - x1 - xu)
 : xt = xv := by
  grind (ringSteps := 1000000)
set_option maxHeartbeats 8000000 in
theorem as5y (x1 y1 x2 y2 x3 y3 a b l xs ys m xt yt k xu yu n xv yv : Rat) (two : (2:Rat) ≠ 0)
 (h1 : y1 * y1 = x1 * x1 * x1 + a * x1 + b) (h2 : y2 * y2 = x2 * x2 * x2 + a * x2 + b) (h3 : y3 * y3 = x3 * x3 * x3 + a * x3 + b)
 (gs : x2 = x1) (gs' : y2 = y1) (ns : y1 ≠ 0) (hls : l * (2*y1) = 3*x1*x1+a) (e3 : xs = l * l - x1 - x2) (f3 : ys = l * (x1 - xs) - y1)
 (gst : x3 = xs) (gst' : y3 = ys) (nst : ys ≠ 0) (hlst : m * (2*ys) = 3*xs*xs+a) (e4 : xt = m * m - xs - x3) (f4 : yt = m * (xs - xt) - ys)
 (nt : x3 - x2 ≠ 0) (hlt : k * (x3 - x2) = y3 - y2) (e5 : xu = k * k - x2 - x3) (f5 : yu = k * (x2 - xu) - y2)
 (npt : xu - x1 ≠ 0) (hlpt : n * (xu - x1) = yu - y1) (e6 : xv = n * n - x1 - xu) (f6 : yv = n * (x1 - xv) - y1)
 (hx : xt = xv) : yt = yv := by
  grind (ringSteps := 1000000)
set_option maxHeartbeats 8000000 in
theorem as6x (x1 y1 x2 y2 x3 y3 a b l xs ys m xt yt k xu yu n xv yv : Rat) (two : (2:Rat) ≠ 0)
 (h1 : y1 * y1 = x1 * x1 * x1 + a * x1 + b) (h2 : y2 * y2 = x2 * x2 * x2 + a * x2 + b) (h3 : y3 * y3 = x3 * x3 * x3 + a * x3 + b)
 (ns : x2 - x1 ≠ 0) (hls : l * (x2 - x1) = y2 - y1) (e3 : xs = l * l - x1 - x2) (f3 : ys = l * (x1 - xs) - y1)
 (gst : x3 = xs) (gst' : y3 = ys) (nst : ys ≠ 0) (hlst : m * (2*ys) = 3*xs*xs+a) (e4 : xt = m * m - xs - x3)
 (gt : x3 = x2) (gt' : y3 = y2) (nt : y2 ≠ 0) (hlt : k * (2*y2) = 3*x2*x2+a) (e5 : xu = k * k - x2 - x3) (f5 : yu = k * (x2 - xu) - y2)
 (npt : xu - x1 ≠ 0) (hlpt : n * (xu - x1) = yu - y1) (e6 : xv = n * n - x1 - xu)
 : xt = xv := by
  grind (ringSteps := 1000000)
set_option maxHeartbeats 8000000 in
theorem as6y (x1 y1 x2 y2 x3 y3 a b l xs ys m xt yt k xu yu n xv yv : Rat) (two : (2:Rat) ≠ 0)
 (h1 : y1 * y1 = x1 * x1 * x1 + a * x1 + b) (h2 : y2 * y2 = x2 * x2 * x2 + a * x2 + b) (h3 : y3 * y3 = x3 * x3 * x3 + a * x3 + b)
 (ns : x2 - x1 ≠ 0) (hls : l * (x2 - x1) = y2 - y1) (e3 : xs = l * l - x1 - x2) (f3 : ys = l * (x1 - xs) - y1)
 (gst : x3 = xs) (gst' : y3 = ys) (nst : ys ≠ 0) (hlst : m * (2*ys) = 3*xs*xs+a) (e4 : xt = m * m - xs - x3) (f4 : yt = m * (xs - xt) - ys)
 (gt : x3 = x2) (gt' : y3 = y2) (nt : y2 ≠ 0) (hlt : k * (2*y2) = 3*x2*x2+a) (e5 : xu = k * k - x2 - x3) (f5 : yu = k * (x2 - xu) - y2)
 (npt : xu - x1 ≠ 0) (hlpt : n * (xu - x1) = yu - y1) (e6 : xv = n * n - x1 - xu) (f6 : yv = n * (x1 - xv) - y1)
 (hx : xt = xv) : yt = yv := by
  grind (ringSteps := 1000000)
set_option maxHeartbeats 8000000 in
theorem as7x (x1 y1 x2 y2 x3 y3 a b l xs ys m xt yt k xu yu n xv yv : Rat) (two : (2:Rat) ≠ 0)
 (h1 : y1 * y1 = x1 * x1 * x1 + a * x1 + b) (h2 : y2 * y2 = x2 * x2 * x2 + a * x2 + b) (h3 : y3 * y3 = x3 * x3 * x3 + a * x3 + b)
 (gs : x2 = x1) (gs' : y2 = y1) (ns : y1 ≠ 0) (hls : l * (2*y1) = 3*x1*x1+a) (e3 : xs = l * l - x1 - x2) (f3 : ys = l * (x1 - xs) - y1)
 (gst : x3 = xs) (gst' : y3 = ys) (nst : ys ≠ 0) (hlst : m * (2*ys) = 3*xs*xs+a) (e4 : xt = m * m - xs - x3)
 (gt : x3 = x2) (gt' : y3 = y2) (nt : y2 ≠ 0) (hlt : k * (2*y2) = 3*x2*x2+a) (e5 : xu = k * k - x2 - x3) (f5 : yu = k * (x2 - xu) - y2)
 (npt : xu - x1 ≠ 0) (hlpt : n * (xu - x1) = yu - y1) (e6 : xv = n * n - x1 - xu)
 : xt = xv := by
  grind (ringSteps := 1000000)
set_option maxHeartbeats 8000000 in
theorem as7y (x1 y1 x2 y2 x3 y3 a b l xs ys m xt yt k xu yu n xv yv : Rat) (two : (2:Rat) ≠ 0)
 (h1 : y1 * y1 = x1 * x1 * x1 + a * x1 + b) (h2 : y2 * y2 = x2 * x2 * x2 + a * x2 + b) (h3 : y3 * y3 = x3 * x3 * x3 + a * x3 + b)
 (gs : x2 = x1) (gs' : y2 = y1) (ns : y1 ≠ 0) (hls : l * (2*y1) = 3*x1*x1+a) (e3 : xs = l * l - x1 - x2) (f3 : ys = l * (x1 - xs) - y1)
 (gst : x3 = xs) (gst' : y3 = ys) (nst : ys ≠ 0) (hlst : m * (2*ys) = 3*xs*xs+a) (e4 : xt = m * m - xs - x3) (f4 : yt = m * (xs - xt) - ys)
 (gt : x3 = x2) (gt' : y3 = y2) (nt : y2 ≠ 0) (hlt : k * (2*y2) = 3*x2*x2+a) (e5 : xu = k * k - x2 - x3) (f5 : yu = k * (x2 - xu) - y2)
 (npt : xu - x1 ≠ 0) (hlpt : n * (xu - x1) = yu - y1) (e6 : xv = n * n - x1 - xu) (f6 : yv = n * (x1 - xv) - y1)
 (hx : xt = xv) : yt = yv := by
  grind (ringSteps := 1000000)
set_option maxHeartbeats 8000000 in
theorem as8x (x1 y1 x2 y2 x3 y3 a b l xs ys m xt yt k xu yu n xv yv : Rat) (two : (2:Rat) ≠ 0)
 (h1 : y1 * y1 = x1 * x1 * x1 + a * x1 + b) (h2 : y2 * y2 = x2 * x2 * x2 + a * x2 + b) (h3 : y3 * y3 = x3 * x3 * x3 + a * x3 + b)
 (ns : x2 - x1 ≠ 0) (hls : l * (x2 - x1) = y2 - y1) (e3 : xs = l * l - x1 - x2) (f3 : ys = l * (x1 - xs) - y1)
 (nst : x3 - xs ≠ 0) (hlst : m * (x3 - xs) = y3 - ys) (e4 : xt = m * m - xs - x3)
 (nt : x3 - x2 ≠ 0) (hlt : k * (x3 - x2) = y3 - y2) (e5 : xu = k * k - x2 - x3) (f5 : yu = k * (x2 - xu) - y2)
 (gpt : xu = x1) (gpt' : yu = y1) (npt : y1 ≠ 0) (hlpt : n * (2*y1) = 3*x1*x1+a) (e6 : xv = n * n - x1 - xu)
 : xt = xv := by
  grind (ringSteps := 1000000)
set_option maxHeartbeats 8000000 in
theorem as8y (x1 y1 x2 y2 x3 y3 a b l xs ys m xt yt k xu yu n xv yv : Rat) (two : (2:Rat) ≠ 0)
 (h1 : y1 * y1 = x1 * x1 * x1 + a * x1 + b) (h2 : y2 * y2 = x2 * x2 * x2 + a * x2 + b) (h3 : y3 * y3 = x3 * x3 * x3 + a * x3 + b)
 (ns : x2 - x1 ≠ 0) (hls : l * (x2 - x1) = y2 - y1) (e3 : xs = l * l - x1 - x2) (f3 : ys = l * (x1 - xs) - y1)
 (nst : x3 - xs ≠ 0) (hlst : m * (x3 - xs) = y3 - ys) (e4 : xt = m * m - xs - x3) (f4 : yt = m * (xs - xt) - ys)
 (nt : x3 - x2 ≠ 0) (hlt : k * (x3 - x2) = y3 - y2) (e5 : xu = k * k - x2 - x3) (f5 : yu = k * (x2 - xu) - y2)
 (gpt : xu = x1) (gpt' : yu = y1) (npt : y1 ≠ 0) (hlpt : n * (2*y1) = 3*x1*x1+a) (e6 : xv = n * n - x1 - xu) (f6 : yv = n * (x1 - xv) - y1)
 (hx : xt = xv) : yt = yv := by
  grind (ringSteps := 1000000)
set_option maxHeartbeats 8000000 in
theorem as9x (x1 y1 x2 y2 x3 y3 a b l xs ys m xt yt k xu yu n xv yv : Rat) (two : (2:Rat) ≠ 0)
 (h1 : y1 * y1 = x1 * x1 * x1 + a * x1 + b) (h2 : y2 * y2 = x2 * x2 * x2 + a * x2 + b) (h3 : y3 * y3 = x3 * x3 * x3 + a * x3 + b)
 (gs : x2 = x1) (gs' : y2 = y1) (ns : y1 ≠ 0) (hls : l * (2*y1) = 3*x1*x1+a) (e3 : xs = l * l - x1 - x2) (f3 : ys = l * (x1 - xs) - y1)
 (nst : x3 - xs ≠ 0) (hlst : m * (x3 - xs) = y3 - ys) (e4 : xt = m * m - xs - x3)
 (nt : x3 - x2 ≠ 0) (hlt : k * (x3 - x2) = y3 - y2) (e5 : xu = k * k - x2 - x3) (f5 : yu = k * (x2 - xu) - y2)
 (gpt : xu = x1) (gpt' : yu = y1) (npt : y1 ≠ 0) (hlpt : n * (2*y1) = 3*x1*x1+a) (e6 : xv = n * n - x1 - xu)
 : xt = xv := by
  grind (ringSteps := 1000000)
set_option maxHeartbeats 8000000 in
theorem as9y (x1 y1 x2 y2 x3 y3 a b l xs ys m xt yt k xu yu n xv yv : Rat) (two : (2:Rat) ≠ 0)
 (h1 : y1 * y1 = x1 * x1 * x1 + a * x1 + b) (h2 : y2 * y2 = x2 * x2 * x2 + a * x2 + b) (h3 : y3 * y3 = x3 * x3 * x3 + a * x3 + b)
 (gs : x2 = x1) (gs' : y2 = y1) (ns : y1 ≠ 0) (hls : l * (2*y1) = 3*x1*x1+a) (e3 : xs = l * l - x1 - x2) (f3 : ys = l * (x1 - xs) - y1)
 (nst : x3 - xs ≠ 0) (hlst : m * (x3 - xs) = y3 - ys) (e4 : xt = m * m - xs - x3) (f4 : yt = m * (xs - xt) - ys)
 (nt : x3 - x2 ≠ 0) (hlt : k * (x3 - x2) = y3 - y2) (e5 : xu = k * k - x2 - x3) (f5 : yu = k * (x2 - xu) - y2)
 (gpt : xu = x1) (gpt' : yu = y1) (npt : y1 ≠ 0) (hlpt : n * (2*y1) = 3*x1*x1+a) (e6 : xv = n * n - x1 - xu) (f6 : yv = n * (x1 - xv) - y1)
 (hx : xt = xv) : yt = yv := by
  grind (ringSteps := 1000000)
set_option maxHeartbeats 8000000 in
theorem as10x (x1 y1 x2 y2 x3 y3 a b l xs ys m xt yt k xu yu n xv yv : Rat) (two : (2:Rat) ≠ 0)
 (h1 : y1 * y1 = x1 * x1 * x1 + a * x1 + b) (h2 : y2 * y2 = x2 * x2 * x2 + a * x2 + b) (h3 : y3 * y3 = x3 * x3 * x3 + a * x3 + b)
 (ns : x2 - x1 ≠ 0) (hls : l * (x2 - x1) = y2 - y1) (e3 : xs = l * l - x1 - x2) (f3 : ys = l * (x1 - xs) - y1)
 (nst : x3 - xs ≠ 0) (hlst : m * (x3 - xs) = y3 - ys) (e4 : xt = m * m - xs - x3)
 (gt : x3 = x2) (gt' : y3 = y2) (nt : y2 ≠ 0) (hlt : k * (2*y2) = 3*x2*x2+a) (e5 : xu = k * k - x2 - x3) (f5 : yu = k * (x2 - xu) - y2)
 (gpt : xu = x1) (gpt' : yu = y1) (npt : y1 ≠ 0) (hlpt : n * (2*y1) = 3*x1*x1+a) (e6 : xv = n * n - x1 - xu)
 : xt = xv := by
  grind (ringSteps := 1000000)
set_option maxHeartbeats 8000000 in
theorem as10y (x1 y1 x2 y2 x3 y3 a b l xs ys m xt yt k xu yu n xv yv : Rat) (two : (2:Rat) ≠ 0)
 (h1 : y1 * y1 = x1 * x1 * x1 + a * x1 + b) (h2 : y2 * y2 = x2 * x2 * x2 + a * x2 + b) (h3 : y3 * y3 = x3 * x3 * x3 + a * x3 + b)
 (ns : x2 - x1 ≠ 0) (hls : l * (x2 - x1) = y2 - y1) (e3 : xs = l * l - x1 - x2) (f3 : ys = l * (x1 - xs) - y1)
 (nst : x3 - xs ≠ 0) (hlst : m * (x3 - xs) = y3 - ys) (e4 : xt = m * m - xs - x3) (f4 : yt = m * (xs - xt) - ys)
 (gt : x3 = x2) (gt' : y3 = y2) (nt : y2 ≠ 0) (hlt : k * (2*y2) = 3*x2*x2+a) (e5 : xu = k * k - x2 - x3) (f5 : yu = k * (x2 - xu) - y2)
 (gpt : xu = x1) (gpt' : yu = y1) (npt : y1 ≠ 0) (hlpt : n * (2*y1) = 3*x1*x1+a) (e6 : xv = n * n - x1 - xu) (f6 : yv = n * (x1 - xv) - y1)
 (hx : xt = xv) : yt = yv := by
  grind (ringSteps := 1000000)
set_option maxHeartbeats 8000000 in
theorem as11x (x1 y1 x2 y2 x3 y3 a b l xs ys m xt yt k xu yu n xv yv : Rat) (two : (2:Rat) ≠ 0)
 (h1 : y1 * y1 = x1 * x1 * x1 + a * x1 + b) (h2 : y2 * y2 = x2 * x2 * x2 + a * x2 + b) (h3 : y3 * y3 = x3 * x3 * x3 + a * x3 + b)
 (gs : x2 = x1) (gs' : y2 = y1) (ns : y1 ≠ 0) (hls : l * (2*y1) = 3*x1*x1+a) (e3 : xs = l * l - x1 - x2) (f3 : ys = l * (x1 - xs) - y1)
 (nst : x3 - xs ≠ 0) (hlst : m * (x3 - xs) = y3 - ys) (e4 : xt = m * m - xs - x3)
 (gt : x3 = x2) (gt' : y3 = y2) (nt : y2 ≠ 0) (hlt : k * (2*y2) = 3*x2*x2+a) (e5 : xu = k * k - x2 - x3) (f5 : yu = k * (x2 - xu) - y2)
 (gpt : xu = x1) (gpt' : yu = y1) (npt : y1 ≠ 0) (hlpt : n * (2*y1) = 3*x1*x1+a) (e6 : xv = n * n - x1 - xu)
 : xt = xv := by
  grind (ringSteps := 1000000)
set_option maxHeartbeats 8000000 in
theorem as11y (x1 y1 x2 y2 x3 y3 a b l xs ys m xt yt k xu yu n xv yv : Rat) (two : (2:Rat) ≠ 0)
 (h1 : y1 * y1 = x1 * x1 * x1 + a * x1 + b) (h2 : y2 * y2 = x2 * x2 * x2 + a * x2 + b) (h3 : y3 * y3 = x3 * x3 * x3 + a * x3 + b)
 (gs : x2 = x1) (gs' : y2 = y1) (ns : y1 ≠ 0) (hls : l * (2*y1) = 3*x1*x1+a) (e3 : xs = l * l - x1 - x2) (f3 : ys = l * (x1 - xs) - y1)
 (nst : x3 - xs ≠ 0) (hlst : m * (x3 - xs) = y3 - ys) (e4 : xt = m * m - xs - x3) (f4 : yt = m * (xs - xt) - ys)
 (gt : x3 = x2) (gt' : y3 = y2) (nt : y2 ≠ 0) (hlt : k * (2*y2) = 3*x2*x2+a) (e5 : xu = k * k - x2 - x3) (f5 : yu = k * (x2 - xu) - y2)
 (gpt : xu = x1) (gpt' : yu = y1) (npt : y1 ≠ 0) (hlpt : n * (2*y1) = 3*x1*x1+a) (e6 : xv = n * n - x1 - xu) (f6 : yv = n * (x1 - xv) - y1)
 (hx : xt = xv) : yt = yv := by
  grind (ringSteps := 1000000)
set_option maxHeartbeats 8000000 in
theorem as12x (x1 y1 x2 y2 x3 y3 a b l xs ys m xt yt k xu yu n xv yv : Rat) (two : (2:Rat) ≠ 0)
 (h1 : y1 * y1 = x1 * x1 * x1 + a * x1 + b) (h2 : y2 * y2 = x2 * x2 * x2 + a * x2 + b) (h3 : y3 * y3 = x3 * x3 * x3 + a * x3 + b)
 (ns : x2 - x1 ≠ 0) (hls : l * (x2 - x1) = y2 - y1) (e3 : xs = l * l - x1 - x2) (f3 : ys = l * (x1 - xs) - y1)
 (gst : x3 = xs) (gst' : y3 = ys) (nst : ys ≠ 0) (hlst : m * (2*ys) = 3*xs*xs+a) (e4 : xt = m * m - xs - x3)
 (nt : x3 - x2 ≠ 0) (hlt : k * (x3 - x2) = y3 - y2) (e5 : xu = k * k - x2 - x3) (f5 : yu = k * (x2 - xu) - y2)
 (gpt : xu = x1) (gpt' : yu = y1) (npt : y1 ≠ 0) (hlpt : n * (2*y1) = 3*x1*x1+a) (e6 : xv = n * n - x1 - xu)
 : xt = xv := by
  grind (ringSteps := 1000000)
set_option maxHeartbeats 8000000 in
theorem as12y (x1 y1 x2 y2 x3 y3 a b l xs ys m xt yt k xu yu n xv yv : Rat) (two : (2:Rat) ≠ 0)
 (h1 : y1 * y1 = x1 * x1 * x1 + a * x1 + b) (h2 : y2 * y2 = x2 * x2 * x2 + a * x2 + b) (h3 : y3 * y3 = x3 * x3 * x3 + a * x3 + b)
 (ns : x2 - x1 ≠ 0) (hls : l * (x2 - x1) = y2 - y1) (e3 : xs = l * l - x1 - x2) (f3 : ys = l * (x1 - xs) - y1)
 (gst : x3 = xs) (gst' : y3 = ys) (nst : ys ≠ 0) (hlst : m * (2*ys) = 3*xs*xs+a) (e4 : xt = m * m - xs - x3) (f4 : yt = m * (xs - xt) - ys)
 (nt : x3 - x2 ≠ 0) (hlt : k * (x3 - x2) = y3 - y2) (e5 : xu = k * k - x2 - x3) (f5 : yu = k * (x2 - xu) - y2)
 (gpt : xu = x1) (gpt' : yu = y1) (npt : y1 ≠ 0) (hlpt : n * (2*y1) = 3*x1*x1+a) (e6 : xv = n * n - x1 - xu) (f6 : yv = n * (x1 - xv) - y1)
 (hx : xt = xv) : yt = yv := by
  grind (ringSteps := 1000000)
set_option maxHeartbeats 8000000 in
theorem as13x (x1 y1 x2 y2 x3 y3 a b l xs ys m xt yt k xu yu n xv yv : Rat) (two : (2:Rat) ≠ 0)
 (h1 : y1 * y1 = x1 * x1 * x1 + a * x1 + b) (h2 : y2 * y2 = x2 * x2 * x2 + a * x2 + b) (h3 : y3 * y3 = x3 * x3 * x3 + a * x3 + b)
 (gs : x2 = x1) (gs' : y2 = y1) (ns : y1 ≠ 0) (hls : l * (2*y1) = 3*x1*x1+a) (e3 : xs = l * l - x1 - x2) (f3 : ys = l * (x1 - xs) - y1)
 (gst : x3 = xs) (gst' : y3 = ys) (nst : ys ≠ 0) (hlst : m * (2*ys) = 3*xs*xs+a) (e4 : xt = m * m - xs - x3)
 (nt : x3 - x2 ≠ 0) (hlt : k * (x3 - x2) = y3 - y2) (e5 : xu = k * k - x2 - x3) (f5 : yu = k * (x2 - xu) - y2)
 (gpt : xu = x1) (gpt' : yu = y1) (npt : y1 ≠ 0) (hlpt : n * (2*y1) = 3*x1*x1+a) (e6 : xv = n * n - x1 - xu)
 : xt = xv := by
  grind (ringSteps := 1000000)
set_option maxHeartbeats 8000000 in
theorem as13y (x1 y1 x2 y2 x3 y3 a b l xs ys m xt yt k xu yu n xv yv : Rat) (two : (2:Rat) ≠ 0)
 (h1 : y1 * y1 = x1 * x1 * x1 + a * x1 + b) (h2 : y2 * y2 = x2 * x2 * x2 + a * x2 + b) (h3 : y3 * y3 = x3 * x3 * x3 + a * x3 + b)
 (gs : x2 = x1) (gs' : y2 = y1) (ns : y1 ≠ 0) (hls : l * (2*y1) = 3*x1*x1+a) (e3 : xs = l * l - x1 - x2) (f3 : ys = l * (x1 - xs) - y1)
 (gst : x3 = xs) (gst' : y3 = ys) (nst : ys ≠ 0) (hlst : m * (2*ys) = 3*xs*xs+a) (e4 : xt = m * m - xs - x3) (f4 : yt = m * (xs - xt) - ys)
 (nt : x3 - x2 ≠ 0) (hlt : k * (x3 - x2) = y3 - y2) (e5 : xu = k * k - x2 - x3) (f5 : yu = k * (x2 - xu) - y2)
 (gpt : xu = x1) (gpt' : yu = y1) (npt : y1 ≠ 0) (hlpt : n * (2*y1) = 3*x1*x1+a) (e6 : xv = n * n - x1 - xu) (f6 : yv = n * (x1 - xv) - y1)
 (hx : xt = xv) : yt = yv := by
  grind (ringSteps := 1000000)
set_option maxHeartbeats 8000000 in
theorem as14x (x1 y1 x2 y2 x3 y3 a b l xs ys m xt yt k xu yu n xv yv : Rat) (two : (2:Rat) ≠ 0)
 (h1 : y1 * y1 = x1 * x1 * x1 + a * x1 + b) (h2 : y2 * y2 = x2 * x2 * x2 + a * x2 + b) (h3 : y3 * y3 = x3 * x3 * x3 + a * x3 + b)
 (ns : x2 - x1 ≠ 0) (hls : l * (x2 - x1) = y2 - y1) (e3 : xs = l * l - x1 - x2) (f3 : ys = l * (x1 - xs) - y1)
 (gst : x3 = xs) (gst' : y3 = ys) (nst : ys ≠ 0) (hlst : m * (2*ys) = 3*xs*xs+a) (e4 : xt = m * m - xs - x3)
 (gt : x3 = x2) (gt' : y3 = y2) (nt : y2 ≠ 0) (hlt : k * (2*y2) = 3*x2*x2+a) (e5 : xu = k * k - x2 - x3) (f5 : yu = k * (x2 - xu) - y2)
 (gpt : xu = x1) (gpt' : yu = y1) (npt : y1 ≠ 0) (hlpt : n * (2*y1) = 3*x1*x1+a) (e6 : xv = n * n - x1 - xu)
 : xt = xv := by
  grind (ringSteps := 1000000)
set_option maxHeartbeats 8000000 in
theorem as14y (x1 y1 x2 y2 x3 y3 a b l xs ys m xt yt k xu yu n xv yv : Rat) (two : (2:Rat) ≠ 0)
 (h1 : y1 * y1 = x1 * x1 * x1 + a * x1 + b) (h2 : y2 * y2 = x2 * x2 * x2 + a * x2 + b) (h3 : y3 * y3 = x3 * x3 * x3 + a * x3 + b)
 (ns : x2 - x1 ≠ 0) (hls : l * (x2 - x1) = y2 - y1) (e3 : xs = l * l - x1 - x2) (f3 : ys = l * (x1 - xs) - y1)
 (gst : x3 = xs) (gst' : y3 = ys) (nst : ys ≠ 0) (hlst : m * (2*ys) = 3*xs*xs+a) (e4 : xt = m * m - xs - x3) (f4 : yt = m * (xs - xt) - ys)
 (gt : x3 = x2) (gt' : y3 = y2) (nt : y2 ≠ 0) (hlt : k * (2*y2) = 3*x2*x2+a) (e5 : xu = k * k - x2 - x3) (f5 : yu = k * (x2 - xu) - y2)
 (gpt : xu = x1) (gpt' : yu = y1) (npt : y1 ≠ 0) (hlpt : n * (2*y1) = 3*x1*x1+a) (e6 : xv = n * n - x1 - xu) (f6 : yv = n * (x1 - xv) - y1)
 (hx : xt = xv) : yt = yv := by
  grind (ringSteps := 1000000)
set_option maxHeartbeats 8000000 in
theorem as15x (x1 y1 x2 y2 x3 y3 a b l xs ys m xt yt k xu yu n xv yv : Rat) (two : (2:Rat) ≠ 0)
 (h1 : y1 * y1 = x1 * x1 * x1 + a * x1 + b) (h2 : y2 * y2 = x2 * x2 * x2 + a * x2 + b) (h3 : y3 * y3 = x3 * x3 * x3 + a * x3 + b)
 (gs : x2 = x1) (gs' : y2 = y1) (ns : y1 ≠ 0) (hls : l * (2*y1) = 3*x1*x1+a) (e3 : xs = l * l - x1 - x2) (f3 : ys = l * (x1 - xs) - y1)
 (gst : x3 = xs) (gst' : y3 = ys) (nst : ys ≠ 0) (hlst : m * (2*ys) = 3*xs*xs+a) (e4 : xt = m * m - xs - x3)
 (gt : x3 = x2) (gt' : y3 = y2) (nt : y2 ≠ 0) (hlt : k * (2*y2) = 3*x2*x2+a) (e5 : xu = k * k - x2 - x3) (f5 : yu = k * (x2 - xu) - y2)
 (gpt : xu = x1) (gpt' : yu = y1) (npt : y1 ≠ 0) (hlpt : n * (2*y1) = 3*x1*x1+a) (e6 : xv = n * n - x1 - xu)
 : xt = xv := by
  grind (ringSteps := 1000000)
set_option maxHeartbeats 8000000 in
theorem as15y (x1 y1 x2 y2 x3 y3 a b l xs ys m xt yt k xu yu n xv yv : Rat) (two : (2:Rat) ≠ 0)
 (h1 : y1 * y1 = x1 * x1 * x1 + a * x1 + b) (h2 : y2 * y2 = x2 * x2 * x2 + a * x2 + b) (h3 : y3 * y3 = x3 * x3 * x3 + a * x3 + b)
 (gs : x2 = x1) (gs' : y2 = y1) (ns : y1 ≠ 0) (hls : l * (2*y1) = 3*x1*x1+a) (e3 : xs = l * l - x1 - x2) (f3 : ys = l * (x1 - xs) - y1)
 (gst : x3 = xs) (gst' : y3 = ys) (nst : ys ≠ 0) (hlst : m * (2*ys) = 3*xs*xs+a) (e4 : xt = m * m - xs - x3) (f4 : yt = m * (xs - xt) - ys)
 (gt : x3 = x2) (gt' : y3 = y2) (nt : y2 ≠ 0) (hlt : k * (2*y2) = 3*x2*x2+a) (e5 : xu = k * k - x2 - x3) (f5 : yu = k * (x2 - xu) - y2)
 (gpt : xu = x1) (gpt' : yu = y1) (npt : y1 ≠ 0) (hlpt : n * (2*y1) = 3*x1*x1+a) (e6 : xv = n * n - x1 - xu) (f6 : yv = n * (x1 - xv) - y1)
 (hx : xt = xv) : yt = yv := by
  grind (ringSteps := 1000000)
theorem sum_fun {a x1 y1 x2 y2 x3 y3 x4 y4 : Rat} (two : (2 : Rat) ≠ 0) (h : Sum a x1 y1 x2 y2 x3 y3) (k : Sum a x1 y1 x2 y2 x4 y4) : x3 = x4 ∧ y3 = y4 := by
  obtain ⟨l, hl | hl, e3, f3⟩ := h <;> obtain ⟨m, hm | hm, e4, f4⟩ := k
  · obtain ⟨n, hl⟩ := hl; obtain ⟨n2, hm⟩ := hm
    have : l = m := by grind
    subst this; grind
  · exfalso; grind
  · exfalso; grind
  · obtain ⟨rfl, rfl, n, hl⟩ := hl; obtain ⟨-, -, n2, hm⟩ := hm
    have : l = m := by grind
    subst this; grind
theorem sum_assoc {a b x1 y1 x2 y2 x3 y3 xs ys xt yt xu yu xv yv : Rat} (two : (2 : Rat) ≠ 0) (h1 : On a b x1 y1) (h2 : On a b x2 y2) (h3 : On a b x3 y3)
    (hs : Sum a x1 y1 x2 y2 xs ys) (ht : Sum a xs ys x3 y3 xt yt) (hu : Sum a x2 y2 x3 y3 xu yu) (hv : Sum a x1 y1 xu yu xv yv) : xt = xv ∧ yt = yv := by
  have hs0 := hs; have ht0 := ht; have hu0 := hu; have hv0 := hv
  obtain ⟨l, hl, e3, f3⟩ := hs
  obtain ⟨m, hm, e4, f4⟩ := ht
  obtain ⟨k, hk, e5, f5⟩ := hu
  obtain ⟨n, hn, e6, f6⟩ := hv
  unfold On at h1 h2 h3
  rcases hl with ⟨nl, hl⟩ | ⟨gl, kl, nl, hl⟩ <;> rcases hm with ⟨nm, hm⟩ | ⟨gm, km, nm, hm⟩ <;> rcases hk with ⟨nk, hk⟩ | ⟨gk, kk, nk, hk⟩ <;> rcases hn with ⟨nn, hn⟩ | ⟨gn, kn, nn, hn⟩
  · have hx := as0x x1 y1 x2 y2 x3 y3 a b l xs ys m xt yt k xu yu n xv yv h1 h2 h3 nl hl e3 f3 nm hm e4 nk hk e5 f5 nn hn e6
    exact ⟨hx, as0y x1 y1 x2 y2 x3 y3 a b l xs ys m xt yt k xu yu n xv yv h1 h2 h3 nl hl e3 f3 nm hm e4 f4 nk hk e5 f5 nn hn e6 f6 hx⟩
  · have hx := as8x x1 y1 x2 y2 x3 y3 a b l xs ys m xt yt k xu yu n xv yv two h1 h2 h3 nl hl e3 f3 nm hm e4 nk hk e5 f5 gn kn nn hn e6
    exact ⟨hx, as8y x1 y1 x2 y2 x3 y3 a b l xs ys m xt yt k xu yu n xv yv two h1 h2 h3 nl hl e3 f3 nm hm e4 f4 nk hk e5 f5 gn kn nn hn e6 f6 hx⟩
  · have hx := as2x x1 y1 x2 y2 x3 y3 a b l xs ys m xt yt k xu yu n xv yv two h1 h2 h3 nl hl e3 f3 nm hm e4 gk kk nk hk e5 f5 nn hn e6
    exact ⟨hx, as2y x1 y1 x2 y2 x3 y3 a b l xs ys m xt yt k xu yu n xv yv two h1 h2 h3 nl hl e3 f3 nm hm e4 f4 gk kk nk hk e5 f5 nn hn e6 f6 hx⟩
  · have hx := as10x x1 y1 x2 y2 x3 y3 a b l xs ys m xt yt k xu yu n xv yv two h1 h2 h3 nl hl e3 f3 nm hm e4 gk kk nk hk e5 f5 gn kn nn hn e6
    exact ⟨hx, as10y x1 y1 x2 y2 x3 y3 a b l xs ys m xt yt k xu yu n xv yv two h1 h2 h3 nl hl e3 f3 nm hm e4 f4 gk kk nk hk e5 f5 gn kn nn hn e6 f6 hx⟩
  · have hx := as4x x1 y1 x2 y2 x3 y3 a b l xs ys m xt yt k xu yu n xv yv two h1 h2 h3 nl hl e3 f3 gm km nm hm e4 nk hk e5 f5 nn hn e6
    exact ⟨hx, as4y x1 y1 x2 y2 x3 y3 a b l xs ys m xt yt k xu yu n xv yv two h1 h2 h3 nl hl e3 f3 gm km nm hm e4 f4 nk hk e5 f5 nn hn e6 f6 hx⟩
  · have hx := as12x x1 y1 x2 y2 x3 y3 a b l xs ys m xt yt k xu yu n xv yv two h1 h2 h3 nl hl e3 f3 gm km nm hm e4 nk hk e5 f5 gn kn nn hn e6
    exact ⟨hx, as12y x1 y1 x2 y2 x3 y3 a b l xs ys m xt yt k xu yu n xv yv two h1 h2 h3 nl hl e3 f3 gm km nm hm e4 f4 nk hk e5 f5 gn kn nn hn e6 f6 hx⟩
  · have hx := as6x x1 y1 x2 y2 x3 y3 a b l xs ys m xt yt k xu yu n xv yv two h1 h2 h3 nl hl e3 f3 gm km nm hm e4 gk kk nk hk e5 f5 nn hn e6
    exact ⟨hx, as6y x1 y1 x2 y2 x3 y3 a b l xs ys m xt yt k xu yu n xv yv two h1 h2 h3 nl hl e3 f3 gm km nm hm e4 f4 gk kk nk hk e5 f5 nn hn e6 f6 hx⟩
  · have hx := as14x x1 y1 x2 y2 x3 y3 a b l xs ys m xt yt k xu yu n xv yv two h1 h2 h3 nl hl e3 f3 gm km nm hm e4 gk kk nk hk e5 f5 gn kn nn hn e6
    exact ⟨hx, as14y x1 y1 x2 y2 x3 y3 a b l xs ys m xt yt k xu yu n xv yv two h1 h2 h3 nl hl e3 f3 gm km nm hm e4 f4 gk kk nk hk e5 f5 gn kn nn hn e6 f6 hx⟩
  · obtain ⟨l', hl', e3', f3'⟩ := sum_comm hs0
    obtain ⟨m', hm', e4', f4'⟩ := sum_comm ht0
    obtain ⟨k', hk', e5', f5'⟩ := sum_comm hu0
    obtain ⟨n', hn', e6', f6'⟩ := sum_comm hv0
    subst gl; subst kl
    rcases hm' with ⟨nm', hm'⟩ | ⟨gm', -, -, -⟩
    · rcases hk' with ⟨nk', hk'⟩ | ⟨gk', -, -, -⟩
      · rcases hn' with ⟨nn', hn'⟩ | ⟨gn', -, -, -⟩
        · have hx := as2x x3 y3 _ _ _ _ a b k' xu yu n' xv yv l xs ys m' xt yt two h3 h1 h1 nk' hk' e5' f5' nn' hn' e6' rfl rfl nl hl e3 f3 nm' hm' e4'
          exact ⟨hx.symm, (as2y x3 y3 _ _ _ _ a b k' xu yu n' xv yv l xs ys m' xt yt two h3 h1 h1 nk' hk' e5' f5' nn' hn' e6' f6' rfl rfl nl hl e3 f3 nm' hm' e4' f4' hx).symm⟩
        · exfalso; grind
      · exfalso; grind
    · exfalso; grind
  · have hx := as9x x1 y1 x2 y2 x3 y3 a b l xs ys m xt yt k xu yu n xv yv two h1 h2 h3 gl kl nl hl e3 f3 nm hm e4 nk hk e5 f5 gn kn nn hn e6
    exact ⟨hx, as9y x1 y1 x2 y2 x3 y3 a b l xs ys m xt yt k xu yu n xv yv two h1 h2 h3 gl kl nl hl e3 f3 nm hm e4 f4 nk hk e5 f5 gn kn nn hn e6 f6 hx⟩
  · have hx := as3x x1 y1 x2 y2 x3 y3 a b l xs ys m xt yt k xu yu n xv yv two h1 h2 h3 gl kl nl hl e3 f3 nm hm e4 gk kk nk hk e5 f5 nn hn e6
    exact ⟨hx, as3y x1 y1 x2 y2 x3 y3 a b l xs ys m xt yt k xu yu n xv yv two h1 h2 h3 gl kl nl hl e3 f3 nm hm e4 f4 gk kk nk hk e5 f5 nn hn e6 f6 hx⟩
  · have hx := as11x x1 y1 x2 y2 x3 y3 a b l xs ys m xt yt k xu yu n xv yv two h1 h2 h3 gl kl nl hl e3 f3 nm hm e4 gk kk nk hk e5 f5 gn kn nn hn e6
    exact ⟨hx, as11y x1 y1 x2 y2 x3 y3 a b l xs ys m xt yt k xu yu n xv yv two h1 h2 h3 gl kl nl hl e3 f3 nm hm e4 f4 gk kk nk hk e5 f5 gn kn nn hn e6 f6 hx⟩
  · have hx := as5x x1 y1 x2 y2 x3 y3 a b l xs ys m xt yt k xu yu n xv yv two h1 h2 h3 gl kl nl hl e3 f3 gm km nm hm e4 nk hk e5 f5 nn hn e6
    exact ⟨hx, as5y x1 y1 x2 y2 x3 y3 a b l xs ys m xt yt k xu yu n xv yv two h1 h2 h3 gl kl nl hl e3 f3 gm km nm hm e4 f4 nk hk e5 f5 nn hn e6 f6 hx⟩
  · have hx := as13x x1 y1 x2 y2 x3 y3 a b l xs ys m xt yt k xu yu n xv yv two h1 h2 h3 gl kl nl hl e3 f3 gm km nm hm e4 nk hk e5 f5 gn kn nn hn e6
    exact ⟨hx, as13y x1 y1 x2 y2 x3 y3 a b l xs ys m xt yt k xu yu n xv yv two h1 h2 h3 gl kl nl hl e3 f3 gm km nm hm e4 f4 nk hk e5 f5 gn kn nn hn e6 f6 hx⟩
  · have hx := as7x x1 y1 x2 y2 x3 y3 a b l xs ys m xt yt k xu yu n xv yv two h1 h2 h3 gl kl nl hl e3 f3 gm km nm hm e4 gk kk nk hk e5 f5 nn hn e6
    exact ⟨hx, as7y x1 y1 x2 y2 x3 y3 a b l xs ys m xt yt k xu yu n xv yv two h1 h2 h3 gl kl nl hl e3 f3 gm km nm hm e4 f4 gk kk nk hk e5 f5 nn hn e6 f6 hx⟩
  · have hx := as15x x1 y1 x2 y2 x3 y3 a b l xs ys m xt yt k xu yu n xv yv two h1 h2 h3 gl kl nl hl e3 f3 gm km nm hm e4 gk kk nk hk e5 f5 gn kn nn hn e6
    exact ⟨hx, as15y x1 y1 x2 y2 x3 y3 a b l xs ys m xt yt k xu yu n xv yv two h1 h2 h3 gl kl nl hl e3 f3 gm km nm hm e4 f4 gk kk nk hk e5 f5 gn kn nn hn e6 f6 hx⟩
def third (l x1 y1 x2 : Rat) : Option (Rat × Rat) := some (l * l - x1 - x2, l * (x1 - (l * l - x1 - x2)) - y1)
def add (a : Rat) : Option (Rat × Rat) → Option (Rat × Rat) → Option (Rat × Rat)
  | none, q => q
  | p, none => p
  | some (x1, y1), some (x2, y2) =>
    if x2 = x1 then (if y2 = -y1 then none else third ((3 * x1 * x1 + a) / (2 * y1)) x1 y1 x2) else third ((y2 - y1) / (x2 - x1)) x1 y1 x2
def neg : Option (Rat × Rat) → Option (Rat × Rat)
  | none => none
  | some (x, y) => some (x, -y)
def OnO (a b : Rat) : Option (Rat × Rat) → Prop
  | none => True
  | some (x, y) => On a b x y
theorem neg_neg (p : Option (Rat × Rat)) : neg (neg p) = p := by
  rcases p with _ | ⟨x, y⟩
  · rfl
  · simp only [neg, Option.some.injEq, Prod.mk.injEq, true_and]; grind
theorem neg_on {a b : Rat} {p : Option (Rat × Rat)} (h : OnO a b p) : OnO a b (neg p) := by
  rcases p with _ | ⟨x, y⟩
  · trivial
  · simp only [neg, OnO, On] at *; grind
theorem zero_add (a : Rat) (p : Option (Rat × Rat)) : add a none p = p := by rcases p with _ | ⟨x, y⟩ <;> rfl
theorem add_zero (a : Rat) (p : Option (Rat × Rat)) : add a p none = p := by rcases p with _ | ⟨x, y⟩ <;> rfl
/-- Two finite points: opposite ones, or points with a sum. -/
theorem add_cases {a b x1 y1 x2 y2 : Rat} (two : (2 : Rat) ≠ 0) (h1 : On a b x1 y1) (h2 : On a b x2 y2) :
    (x2 = x1 ∧ y2 = -y1 ∧ add a (some (x1, y1)) (some (x2, y2)) = none) ∨ (¬ (x2 = x1 ∧ y2 = -y1) ∧ ∃ x3 y3, add a (some (x1, y1)) (some (x2, y2)) = some (x3, y3) ∧ Sum a x1 y1 x2 y2 x3 y3) := by
  by_cases g : x2 = x1
  · by_cases g2 : y2 = -y1
    · left; exact ⟨g, g2, by simp only [add, if_pos g, if_pos g2]⟩
    · right
      refine ⟨fun h => g2 h.2, _, _, by simp only [add, if_pos g, if_neg g2, third], (3 * x1 * x1 + a) / (2 * y1), .inr ⟨g, ?_, ?_, ?_⟩, rfl, rfl⟩
      · unfold On at *; grind
      · unfold On at *; grind
      · unfold On at *
        have : y2 = y1 := by grind
        have : y1 ≠ 0 := by grind
        have : 2 * y1 ≠ 0 := by grind
        grind
  · right
    refine ⟨fun h => g h.1, _, _, by simp only [add, if_neg g, third], (y2 - y1) / (x2 - x1), .inl ⟨by grind, by grind⟩, rfl, rfl⟩
theorem add_of_sum {a b x1 y1 x2 y2 x3 y3 : Rat} (two : (2 : Rat) ≠ 0) (h1 : On a b x1 y1) (h2 : On a b x2 y2) (h : Sum a x1 y1 x2 y2 x3 y3) : add a (some (x1, y1)) (some (x2, y2)) = some (x3, y3) := by
  rcases add_cases two h1 h2 with ⟨g1, g2, -⟩ | ⟨-, x4, y4, e, k⟩
  · exfalso
    obtain ⟨l, hl | hl, -, -⟩ := h <;> grind
  · obtain ⟨rfl, rfl⟩ := sum_fun two h k; exact e
theorem add_on {a b : Rat} {p q : Option (Rat × Rat)} (two : (2 : Rat) ≠ 0) (hp : OnO a b p) (hq : OnO a b q) : OnO a b (add a p q) := by
  rcases p with _ | ⟨x1, y1⟩
  · rw [zero_add]; exact hq
  rcases q with _ | ⟨x2, y2⟩
  · exact hp
  rcases add_cases two hp hq with ⟨-, -, e⟩ | ⟨-, x3, y3, e, k⟩
  · rw [e]; trivial
  · rw [e]; exact sum_on two hp hq k
theorem add_comm {a b : Rat} {p q : Option (Rat × Rat)} (two : (2 : Rat) ≠ 0) (hp : OnO a b p) (hq : OnO a b q) : add a p q = add a q p := by
  rcases p with _ | ⟨x1, y1⟩
  · rw [zero_add, add_zero]
  rcases q with _ | ⟨x2, y2⟩
  · rw [zero_add, add_zero]
  rcases add_cases two hp hq with ⟨g1, g2, e⟩ | ⟨-, x3, y3, e, k⟩
  · rcases add_cases two hq hp with ⟨-, -, e2⟩ | ⟨n, -⟩
    · rw [e, e2]
    · exfalso; apply n; exact ⟨g1.symm, by grind⟩
  · rw [e, add_of_sum two hq hp (sum_comm k)]
theorem neg_add {a b : Rat} {p q : Option (Rat × Rat)} (two : (2 : Rat) ≠ 0) (hp : OnO a b p) (hq : OnO a b q) : neg (add a p q) = add a (neg p) (neg q) := by
  rcases p with _ | ⟨x1, y1⟩
  · rw [zero_add]; exact (zero_add _ _).symm
  rcases q with _ | ⟨x2, y2⟩
  · rfl
  have hp' := neg_on hp; have hq' := neg_on hq
  rcases add_cases two hp hq with ⟨g1, g2, e⟩ | ⟨-, x3, y3, e, k⟩
  · rcases add_cases two hp' hq' with ⟨-, -, e2⟩ | ⟨n, -⟩
    · rw [e]; exact e2.symm
    · exfalso; apply n; exact ⟨g1, by grind⟩
  · rw [e]; exact (add_of_sum two hp' hq' (sum_neg k)).symm
theorem add_neg_self {a b : Rat} {p : Option (Rat × Rat)} (two : (2 : Rat) ≠ 0) (hp : OnO a b p) : add a p (neg p) = none := by
  rcases p with _ | ⟨x1, y1⟩
  · rfl
  · simp [add, neg]
theorem add_back {a b : Rat} {p q : Option (Rat × Rat)} (two : (2 : Rat) ≠ 0) (ns : 4 * a * a * a + 27 * b * b ≠ 0) (hp : OnO a b p) (hq : OnO a b q) : add a (add a p q) (neg q) = p := by
  rcases p with _ | ⟨x1, y1⟩
  · rw [zero_add]; exact add_neg_self two hq
  rcases q with _ | ⟨x2, y2⟩
  · rfl
  rcases add_cases two hp hq with ⟨g1, g2, e⟩ | ⟨-, x3, y3, e, k⟩
  · rw [e, zero_add]; subst g1; subst g2; simp only [neg, Option.some.injEq, Prod.mk.injEq, true_and]; grind
  · rw [e]
    exact add_of_sum two (sum_on two hp hq k) (neg_on hq) (sum_back two ns hp hq k)
theorem opp_of_none {a b : Rat} {p q : Option (Rat × Rat)} (two : (2 : Rat) ≠ 0) (hp : OnO a b p) (hq : OnO a b q) (h : add a p q = none) : p = neg q := by
  rcases p with _ | ⟨x1, y1⟩
  · rw [zero_add] at h; subst h; rfl
  rcases q with _ | ⟨x2, y2⟩
  · exact h
  rcases add_cases two hp hq with ⟨g1, g2, e⟩ | ⟨-, x3, y3, e, k⟩
  · subst g1; subst g2; simp only [neg, Option.some.injEq, Prod.mk.injEq, true_and]; grind
  · rw [e] at h; cases h
theorem opp_of_none' {a b : Rat} {p q : Option (Rat × Rat)} (two : (2 : Rat) ≠ 0) (hp : OnO a b p) (hq : OnO a b q) (h : add a p q = none) : q = neg p := by
  rw [opp_of_none two hp hq h, neg_neg]
theorem back2 {a b : Rat} {p q : Option (Rat × Rat)} (two : (2 : Rat) ≠ 0) (ns : 4 * a * a * a + 27 * b * b ≠ 0) (hp : OnO a b p) (hq : OnO a b q) : add a (neg q) (add a q p) = p := by
  rw [add_comm two (neg_on hq) (add_on two hq hp), add_comm two hq hp]; exact add_back two ns hp hq
theorem assoc {a b : Rat} {p q r : Option (Rat × Rat)} (two : (2 : Rat) ≠ 0) (ns : 4 * a * a * a + 27 * b * b ≠ 0) (hp : OnO a b p) (hq : OnO a b q) (hr : OnO a b r) : add a (add a p q) r = add a p (add a q r) := by
  have hpq := add_on two hp hq
  have hqr := add_on two hq hr
  by_cases g1 : add a p q = none
  · rw [g1, zero_add, opp_of_none two hp hq g1, back2 two ns hr hq]
  by_cases g2 : add a q r = none
  · rw [g2, add_zero]
    have h := opp_of_none two hq hr g2
    subst h
    have := add_back two ns hp hq
    rw [neg_neg] at this; exact this
  by_cases g3 : add a (add a p q) r = none
  · have h := opp_of_none' two hpq hr g3
    rw [g3, h, neg_add two hp hq]
    have h2 : add a q (add a (neg p) (neg q)) = neg p := by
      have := back2 two ns (neg_on hp) (neg_on hq)
      rw [neg_neg, add_comm two (neg_on hq) (neg_on hp)] at this; exact this
    rw [h2, add_neg_self two hp]
  by_cases g4 : add a p (add a q r) = none
  · have h := opp_of_none two hp hqr g4
    rw [g4, h, neg_add two hq hr]
    have h2 : add a (add a (neg q) (neg r)) q = neg r := by
      rw [add_comm two (neg_on hq) (neg_on hr)]
      have := add_back two ns (neg_on hr) (neg_on hq)
      rw [neg_neg] at this; exact this
    rw [h2, add_comm two (neg_on hr) hr, add_neg_self two hr]
  rcases p with _ | ⟨x1, y1⟩
  · rw [zero_add, zero_add]
  rcases q with _ | ⟨x2, y2⟩
  · rw [zero_add, add_zero]
  rcases r with _ | ⟨x3, y3⟩
  · rw [add_zero, add_zero]
  rcases add_cases two hp hq with ⟨-, -, e⟩ | ⟨-, xs, ys, e, ks⟩
  · exact absurd e g1
  rcases add_cases two hq hr with ⟨-, -, e2⟩ | ⟨-, xu, yu, e2, ku⟩
  · exact absurd e2 g2
  rw [e] at g3 hpq ⊢
  rw [e2] at g4 hqr ⊢
  rcases add_cases two hpq hr with ⟨-, -, e3⟩ | ⟨-, xt, yt, e3, kt⟩
  · exact absurd e3 g3
  rcases add_cases two hp hqr with ⟨-, -, e4⟩ | ⟨-, xv, yv, e4, kv⟩
  · exact absurd e4 g4
  obtain ⟨rfl, rfl⟩ := sum_assoc two hp hq hr ks kt ku kv
  rw [e3, e4]
/-- x is E^k times a fraction whose denominator has nothing in common with E. -/
def I (E : Int) (k : Nat) (x : Rat) : Prop := ∃ n d : Int, Int.gcd d E = 1 ∧ x * (d : Rat) = ((E ^ k * n : Int) : Rat)
theorem gcd_mul1 {a b E : Int} (ha : Int.gcd a E = 1) (hb : Int.gcd b E = 1) : Int.gcd (a * b) E = 1 := by
  unfold Int.gcd at *
  rw [Int.natAbs_mul]
  exact Nat.Coprime.mul_left ha hb
theorem I.of_int {E : Int} {k : Nat} (n : Int) : I E k ((E ^ k * n : Int) : Rat) := ⟨n, 1, by simp, by simp⟩
theorem I.add {E : Int} {k : Nat} {x y : Rat} (hx : I E k x) (hy : I E k y) : I E k (x + y) := by
  obtain ⟨n, d, g, h⟩ := hx; obtain ⟨m, e, g2, h2⟩ := hy
  refine ⟨n * e + m * d, d * e, gcd_mul1 g g2, ?_⟩
  simp only [Rat.intCast_mul, Rat.intCast_add] at *
  grind
theorem I.neg {E : Int} {k : Nat} {x : Rat} (hx : I E k x) : I E k (-x) := by
  obtain ⟨n, d, g, h⟩ := hx
  refine ⟨-n, d, g, ?_⟩
  simp only [Rat.intCast_mul, Rat.intCast_neg] at *
  grind
theorem I.sub {E : Int} {k : Nat} {x y : Rat} (hx : I E k x) (hy : I E k y) : I E k (x - y) := by
  have := hx.add hy.neg; rwa [← Rat.sub_eq_add_neg] at this
theorem I.mul {E : Int} {j k : Nat} {x y : Rat} (hx : I E j x) (hy : I E k y) : I E (j + k) (x * y) := by
  obtain ⟨n, d, g, h⟩ := hx; obtain ⟨m, e, g2, h2⟩ := hy
  refine ⟨n * m, d * e, gcd_mul1 g g2, ?_⟩
  rw [Int.pow_add]
  simp only [Rat.intCast_mul] at *
  grind
theorem I.mono {E : Int} {j k : Nat} {x : Rat} (hx : I E k x) (h : j ≤ k) : I E j x := by
  obtain ⟨n, d, g, h1⟩ := hx
  obtain ⟨i, rfl⟩ := Nat.exists_eq_add_of_le h
  refine ⟨E ^ i * n, d, g, ?_⟩
  rw [h1, Int.pow_add, Int.mul_assoc]
theorem I.int {E : Int} (n : Int) : I E 0 (n : Rat) := by have := I.of_int (E := E) (k := 0) n; simpa using this
theorem I.mul0 {E : Int} {k : Nat} {x y : Rat} (hx : I E 0 x) (hy : I E k y) : I E k (x * y) := by have := hx.mul hy; rwa [Nat.zero_add] at this
/-- What is 1 up to E is a unit. -/
theorem I.unit {E : Int} {k : Nat} {u v x : Rat} (hE : 1 < E) (hu : I E 1 (u - 1)) (hv : I E k v) (h : x * u = v) : I E k x := by
  obtain ⟨n, d, g, h1⟩ := hu; obtain ⟨m, e, g2, h2⟩ := hv
  refine ⟨m * d, (d + E * n) * e, gcd_mul1 ?_ g2, ?_⟩
  · have : d + E * n = d + n * E := by rw [Int.mul_comm E n]
    rw [this, Int.gcd_add_mul_right_left]; exact g
  · have h3 : u * (d : Rat) = ((d + E * n : Int) : Rat) := by
      simp only [Rat.intCast_add, Rat.intCast_mul, Int.pow_one] at *
      grind
    have h4 : x * (((d + E * n) * e : Int) : Rat) = (x * u) * d * e := by
      rw [Rat.intCast_mul, ← h3]; grind
    rw [h4, h]
    simp only [Rat.intCast_mul] at *
    grind
theorem I.unit_ne {E : Int} {u : Rat} (hE : 1 < E) (hu : I E 1 (u - 1)) : u ≠ 0 := by
  rintro rfl
  obtain ⟨n, d, g, h1⟩ := hu
  have h2 : ((-d : Int) : Rat) = ((E * n : Int) : Rat) := by
    rw [Int.pow_one] at h1
    rw [← h1, Rat.intCast_neg]; grind
  have h3 := Rat.intCast_inj.1 h2
  have h4 : E ∣ d := ⟨-n, by rw [Int.mul_neg, ← h3]; omega⟩
  have h5 : Int.gcd d E = E.natAbs := Int.gcd_eq_natAbs_right h4
  omega
theorem line_both {a b x1 y1 x2 y2 x3 y3 : Rat} (h1 : On a b x1 y1) (h2 : On a b x2 y2) (h : Sum a x1 y1 x2 y2 x3 y3) :
    ∃ l m, y1 = l * x1 + m ∧ y2 = l * x2 + m ∧ -y3 = l * x3 + m ∧ x1 + x2 + x3 = l * l ∧ x1 * x2 + x1 * x3 + x2 * x3 = a - 2 * l * m ∧ x1 * x2 * x3 = m * m - b ∧ ((x2 = x1 ∧ y2 = y1 ∧ l * (2 * y1) = 3 * x1 * x1 + a) ∨ x2 - x1 ≠ 0) := by
  obtain ⟨l, hl | hl, e3, f3⟩ := h
  · obtain ⟨n, hl⟩ := hl
    unfold On at *
    refine ⟨l, y1 - l * x1, by grind, by grind, by grind, by grind, by grind, by grind, .inr n⟩
  · obtain ⟨rfl, rfl, n, hl⟩ := hl
    unfold On at *
    refine ⟨l, y2 - l * x2, by grind, by grind, by grind, by grind, by grind, by grind, .inl ⟨rfl, rfl, hl⟩⟩
theorem id1 {a b l m x1 x2 x3 y1 y2 y3 : Rat} (e1 : y1 = l * x1 + m) (e2 : y2 = l * x2 + m) (e3 : -y3 = l * x3 + m) (v1 : x1 + x2 + x3 = l * l) (v2 : x1 * x2 + x1 * x3 + x2 * x3 = a - 2 * l * m) (v3 : x1 * x2 * x3 = m * m - b) :
    y1 * y2 * y3 = -(m * m * m + a * l * l * m - b * l * l * l) := by
  have e4 : y3 = -(l * x3 + m) := by grind
  subst e1; subst e2; subst e4
  clear e3
  have : (l * x1 + m) * (l * x2 + m) * -(l * x3 + m) = -(l * l * l * (x1 * x2 * x3) + l * l * m * (x1 * x2 + x1 * x3 + x2 * x3) + l * m * m * (x1 + x2 + x3) + m * m * m) := by grind
  rw [this, v1, v2, v3]; grind
theorem id2 {a b l m x1 x2 x3 y1 y2 y3 : Rat} (e1 : y1 = l * x1 + m) (e2 : y2 = l * x2 + m) (e3 : -y3 = l * x3 + m) (v1 : x1 + x2 + x3 = l * l) (v2 : x1 * x2 + x1 * x3 + x2 * x3 = a - 2 * l * m) (v3 : x1 * x2 * x3 = m * m - b) :
    x3 * y1 * y2 = x1 * y2 * y3 + x2 * y1 * y3 + 2 * a * l * m - 3 * b * l * l := by
  have e4 : y3 = -(l * x3 + m) := by grind
  subst e1; subst e2; subst e4
  clear e3
  have : x3 * (l * x1 + m) * (l * x2 + m) - (x1 * (l * x2 + m) * -(l * x3 + m) + x2 * (l * x1 + m) * -(l * x3 + m)) = 3 * l * l * (x1 * x2 * x3) + 2 * l * m * (x1 * x2 + x1 * x3 + x2 * x3) + m * m * (x1 + x2 + x3) := by grind
  have h2 : x3 * (l * x1 + m) * (l * x2 + m) = (x1 * (l * x2 + m) * -(l * x3 + m) + x2 * (l * x1 + m) * -(l * x3 + m)) + (3 * l * l * (x1 * x2 * x3) + 2 * l * m * (x1 * x2 + x1 * x3 + x2 * x3) + m * m * (x1 + x2 + x3)) := by rw [← this]; grind
  rw [h2, v1, v2, v3]; grind
theorem nz3 {m D y1 y2 : Rat} (hm : m ≠ 0) (hD : D ≠ 0) : ¬ y1 * y2 * 0 = -(m * m * m * D) := by
  intro h
  have : m * m * m * D = 0 := by grind
  grind
theorem ndiv {n D : Rat} (hD : D ≠ 0) : n / D * D = n := by grind
theorem canc {x L T : Rat} (h : x * T = L * T) (hT : T ≠ 0) : L = x := by grind
theorem kernel_step {E : Int} (hE : 1 < E) {A B : Int} {x1 y1 x2 y2 x3 y3 : Rat} (h1 : On (A : Rat) B x1 y1) (h2 : On (A : Rat) B x2 y2) (h : Sum (A : Rat) x1 y1 x2 y2 x3 y3)
    {z1 w1 z2 w2 : Rat} (hz1 : z1 * y1 = x1) (hw1 : w1 * y1 = 1) (hz2 : z2 * y2 = x2) (hw2 : w2 * y2 = 1)
    (iz1 : I E 1 z1) (iw1 : I E 3 w1) (iz2 : I E 1 z2) (iw2 : I E 3 w2) :
    ∃ z3 w3, z3 * y3 = x3 ∧ w3 * y3 = 1 ∧ I E 1 z3 ∧ I E 3 w3 ∧ I E 5 (z3 - z1 - z2) := by
  obtain ⟨l, m, e1, e2, e3, v1, v2, v3, hor⟩ := line_both h1 h2 h
  have iA := I.int (E := E) A
  have iB := I.int (E := E) B
  generalize (A : Rat) = a at *
  generalize (B : Rat) = b at *
  have f1 : w1 = z1 * z1 * z1 + a * z1 * w1 * w1 + b * w1 * w1 * w1 := by unfold On at *; grind
  have f2 : w2 = z2 * z2 * z2 + a * z2 * w2 * w2 + b * w2 * w2 * w2 := by unfold On at *; grind
  have g1 : l * z1 + m * w1 = 1 := by grind
  have g2 : l * z2 + m * w2 = 1 := by grind
  have hU : I E 1 ((1 - a * (z1 * (w1 + w2)) - b * (w2 * w2 + w1 * w2 + w1 * w1)) - 1) := by
    have t1 : I E 4 (a * (z1 * (w1 + w2))) := iA.mul0 (iz1.mul (iw1.add iw2))
    have t2 : I E 4 (b * (w2 * w2 + w1 * w2 + w1 * w1)) := iB.mul0 ((((iw2.mul iw2).add (iw1.mul iw2)).add (iw1.mul iw1)).mono (by omega))
    have t3 := (t1.neg.sub t2).mono (show 1 ≤ 4 by omega)
    have e : (1 - a * (z1 * (w1 + w2)) - b * (w2 * w2 + w1 * w2 + w1 * w1)) - 1 = -(a * (z1 * (w1 + w2))) - b * (w2 * w2 + w1 * w2 + w1 * w1) := by grind
    rw [e]; exact t3
  have hV : I E 2 (z2 * z2 + z1 * z2 + z1 * z1 + a * (w2 * w2)) := by
    have t1 : I E 2 (z2 * z2 + z1 * z2 + z1 * z1) := ((iz2.mul iz2).add (iz1.mul iz2)).add (iz1.mul iz1)
    have t2 : I E 2 (a * (w2 * w2)) := iA.mul0 ((iw2.mul iw2).mono (by omega))
    exact t1.add t2
  have hne := hU.unit_ne hE
  have hUV : l * (1 - a * (z1 * (w1 + w2)) - b * (w2 * w2 + w1 * w2 + w1 * w1)) + m * (z2 * z2 + z1 * z2 + z1 * z1 + a * (w2 * w2)) = 0 := by
    rcases hor with ⟨k1, k2, k3⟩ | k
    · subst k1; subst k2
      have : z2 = z1 := by grind
      have : w2 = w1 := by grind
      subst z2; subst w2
      unfold On at *; grind
    · by_cases kz : z2 = z1
      · exfalso
        subst kz
        have hw : (w2 - w1) * (1 - a * (z2 * (w1 + w2)) - b * (w2 * w2 + w1 * w2 + w1 * w1)) = 0 := by grind
        have hw' : w2 - w1 = 0 := by grind
        grind
      · have hw : (w2 - w1) * (1 - a * (z1 * (w1 + w2)) - b * (w2 * w2 + w1 * w2 + w1 * w1)) = (z2 - z1) * (z2 * z2 + z1 * z2 + z1 * z1 + a * (w2 * w2)) := by grind
        generalize (1 - a * (z1 * (w1 + w2)) - b * (w2 * w2 + w1 * w2 + w1 * w1)) = U at *
        generalize (z2 * z2 + z1 * z2 + z1 * z1 + a * (w2 * w2)) = V at *
        have hd : z2 - z1 ≠ 0 := by grind
        grind
  generalize hUe : (1 - a * (z1 * (w1 + w2)) - b * (w2 * w2 + w1 * w2 + w1 * w1)) = U at *
  generalize hVe : (z2 * z2 + z1 * z2 + z1 * z1 + a * (w2 * w2)) = V at *
  have hm : m ≠ 0 := by rintro rfl; grind
  have hal : V / U * U = V := by grind
  have ial : I E 2 (V / U) := I.unit hE hU hV hal
  have hl : l = -(V / U) * m := by grind
  generalize V / U = α at *
  clear hUe hVe hU hV hUV hal hne
  have hbe : (w1 - α * z1) * m = 1 := by grind
  have ibe : I E 3 (w1 - α * z1) := iw1.sub (ial.mul iz1)
  generalize hb0 : w1 - α * z1 = β at *
  have iD : I E 1 ((1 + a * (α * α) + b * (α * α * α)) - 1) := by
    have t1 : I E 1 (a * (α * α)) := iA.mul0 ((ial.mul ial).mono (by omega))
    have t2 : I E 1 (b * (α * α * α)) := iB.mul0 (((ial.mul ial).mul ial).mono (by omega))
    have e : (1 + a * (α * α) + b * (α * α * α)) - 1 = a * (α * α) + b * (α * α * α) := by grind
    rw [e]; exact t1.add t2
  have hD := iD.unit_ne hE
  have iN : I E 5 (a * (2 * (α * β)) + b * (3 * (α * α * β))) := by
    have t0 := ial.mul ibe
    have t1 : I E 5 (a * (2 * (α * β))) := iA.mul0 ((I.int (E := E) 2).mul0 t0)
    have t2 : I E 5 (b * (3 * (α * α * β))) := iB.mul0 ((I.int (E := E) 3).mul0 (((ial.mul ial).mul ibe).mono (by omega)))
    exact t1.add t2
  have hyyy : y1 * y2 * y3 = -(m * m * m * (1 + a * (α * α) + b * (α * α * α))) := by
    have := id1 e1 e2 e3 v1 v2 v3
    rw [this, hl]; grind
  have hxyy := id2 e1 e2 e3 v1 v2 v3
  have hnum : 2 * a * l * m - 3 * b * l * l = -(m * m * m * (a * (2 * (α * β)) + b * (3 * (α * α * β)))) := by
    rw [hl]
    have h9 : m * β = 1 := by rw [Rat.mul_comm]; exact hbe
    have : m * m * m * (a * (2 * (α * β)) + b * (3 * (α * α * β))) = m * m * (a * (2 * α) + b * (3 * (α * α))) * (m * β) := by grind
    rw [this, h9]; grind
  generalize hD0 : 1 + a * (α * α) + b * (α * α * α) = D at *
  have hy3 : y3 ≠ 0 := by
    rintro rfl
    exact nz3 hm hD hyyy
  have hd : (a * (2 * (α * β)) + b * (3 * (α * α * β))) / D * D = a * (2 * (α * β)) + b * (3 * (α * α * β)) := ndiv hD
  have idl := I.unit hE iD iN hd
  generalize hδ : (a * (2 * (α * β)) + b * (3 * (α * α * β))) / D = δ at *
  have hz3 : (z1 + z2 + δ) * y3 = x3 := by
    have hy12 : y1 * y2 ≠ 0 := by
      intro h0
      have : z1 * (w2 * (y1 * y2)) = z1 * y1 := by grind
      have h5 : (w1 * y1) * (w2 * y2) = w1 * w2 * (y1 * y2) := by grind
      rw [hw1, hw2, h0] at h5
      grind
    have q1 : (z1 + z2 + δ) * y3 * (y1 * y2) = x1 * y2 * y3 + x2 * y1 * y3 + δ * (y1 * y2 * y3) := by rw [← hz1, ← hz2]; grind
    have q2 : δ * (y1 * y2 * y3) = 2 * a * l * m - 3 * b * l * l := by
      rw [hyyy, hnum, ← hd]; grind
    have q3 : x3 * (y1 * y2) = (z1 + z2 + δ) * y3 * (y1 * y2) := by
      rw [q1, q2]
      have : x3 * (y1 * y2) = x3 * y1 * y2 := by grind
      rw [this, hxyy]; grind
    exact canc q3 hy12
  have iz3 : I E 1 (z1 + z2 + δ) := (iz1.add iz2).add (idl.mono (by omega))
  refine ⟨z1 + z2 + δ, α * (z1 + z2 + δ) - β, hz3, ?_, iz3, (ial.mul iz3).sub ibe, ?_⟩
  · generalize z1 + z2 + δ = z3 at *; grind
  · have e : z1 + z2 + δ - z1 - z2 = δ := by grind
    rw [e]; exact idl

def nmul (a : Rat) : Nat → Option (Rat × Rat) → Option (Rat × Rat)
  | 0, _ => none
  | k + 1, p => add a (nmul a k p) p
theorem nmul_on {a b : Rat} (two : (2 : Rat) ≠ 0) {p : Option (Rat × Rat)} (hp : OnO a b p) (k : Nat) : OnO a b (nmul a k p) := by
  induction k with
  | zero => trivial
  | succ k ih => exact add_on two ih hp
theorem nmul_add {a b : Rat} (two : (2 : Rat) ≠ 0) (ns : 4 * a * a * a + 27 * b * b ≠ 0) {p : Option (Rat × Rat)} (hp : OnO a b p) (j k : Nat) : nmul a (j + k) p = add a (nmul a j p) (nmul a k p) := by
  induction k with
  | zero => exact (add_zero _ _).symm
  | succ k ih =>
    show add a (nmul a (j + k) p) p = add a (nmul a j p) (add a (nmul a k p) p)
    rw [ih, assoc two ns (nmul_on two hp j) (nmul_on two hp k) hp]
theorem nmul_none {a : Rat} (k : Nat) : nmul a k none = none := by
  induction k with
  | zero => rfl
  | succ k ih => show add a (nmul a k none) none = none; rw [ih]; rfl
theorem nmul_mul {a b : Rat} (two : (2 : Rat) ≠ 0) (ns : 4 * a * a * a + 27 * b * b ≠ 0) {p : Option (Rat × Rat)} (hp : OnO a b p) (j k : Nat) : nmul a (j * k) p = nmul a j (nmul a k p) := by
  induction j with
  | zero => rw [Nat.zero_mul]; rfl
  | succ j ih =>
    rw [Nat.succ_mul, nmul_add two ns hp, ih]; rfl
/-- z = x / y of a point; 0 at infinity. -/
def zof : Option (Rat × Rat) → Rat
  | none => 0
  | some (x, y) => x / y
def Ker (E : Int) (p : Option (Rat × Rat)) : Prop := match p with
  | none => True
  | some (x, y) => ∃ z w, z * y = x ∧ w * y = 1 ∧ I E 1 z ∧ I E 3 w
theorem zof_eq {x y z w : Rat} (h : z * y = x) (h2 : w * y = 1) : zof (some (x, y)) = z := by
  have : y ≠ 0 := by rintro rfl; grind
  show x / y = z
  grind
theorem two_rat : (2 : Rat) ≠ 0 := by decide
theorem ker_mul {E : Int} (hE : 1 < E) {A B : Int} {x y : Rat} (h : On (A : Rat) B x y) (hk : Ker E (some (x, y))) (k : Nat) :
    Ker E (nmul (A : Rat) k (some (x, y))) ∧ I E 5 (zof (nmul (A : Rat) k (some (x, y))) - ((k : Int) : Rat) * zof (some (x, y))) := by
  induction k with
  | zero => exact ⟨trivial, 0, 1, by simp, by simp [nmul, zof] <;> grind⟩
  | succ k ih =>
    obtain ⟨ih1, ih2⟩ := ih
    have hon := nmul_on two_rat (p := some (x, y)) (a := (A : Rat)) (b := (B : Rat)) h k
    obtain ⟨z1, w1, k1, k2, k3, k4⟩ := hk
    have ez := zof_eq k1 k2
    show Ker E (add _ (nmul _ k _) _) ∧ I E 5 (zof (add _ (nmul _ k _) _) - _)
    generalize nmul (A : Rat) k (some (x, y)) = Q at *
    have ec : (((k + 1 : Nat) : Int) : Rat) = ((k : Int) : Rat) + 1 := by rw [show ((k + 1 : Nat) : Int) = (k : Int) + 1 by omega, Rat.intCast_add]; rfl
    rw [ec]
    generalize ((k : Int) : Rat) = K at *
    rcases Q with _ | ⟨x2, y2⟩
    · rw [zero_add]
      refine ⟨⟨z1, w1, k1, k2, k3, k4⟩, ?_⟩
      have e : zof (some (x, y)) - (K + 1) * zof (some (x, y)) = zof none - K * zof (some (x, y)) := by simp only [zof]; grind
      rw [e]; exact ih2
    · obtain ⟨z2, w2, j1, j2, j3, j4⟩ := ih1
      have ez2 := zof_eq j1 j2
      rcases add_cases two_rat hon h with ⟨g1, g2, e⟩ | ⟨-, x3, y3, e, ks⟩
      · rw [e]
        refine ⟨trivial, ?_⟩
        have hz : z2 = -z1 := by subst g1; subst g2; grind
        rw [ez2, ez] at ih2
        rw [ez]
        have e2 : zof none - (K + 1) * z1 = z2 - K * z1 := by simp only [zof]; grind
        rw [e2]; exact ih2
      · rw [e]
        obtain ⟨z3, w3, q1, q2, q3, q4, q5⟩ := kernel_step hE hon h ks j1 j2 k1 k2 j3 j4 k3 k4
        refine ⟨⟨z3, w3, q1, q2, q3, q4⟩, ?_⟩
        have ez3 := zof_eq q1 q2
        rw [ez2, ez] at ih2
        rw [ez3, ez]
        have e2 : z3 - (K + 1) * z1 = (z3 - z2 - z1) + (z2 - K * z1) := by grind
        rw [e2]; exact q5.add ih2

theorem dvd_of_gcd1 {a b c : Int} (h : a ∣ b * c) (g : Int.gcd a b = 1) : a ∣ c := by
  rw [← Int.natAbs_dvd_natAbs] at h ⊢
  rw [Int.natAbs_mul] at h
  exact Nat.Coprime.dvd_of_dvd_mul_left g h
def OnC (A B X Y E : Int) : Prop := Y * Y = X * X * X + A * X * (E * E * E * E) + B * (E * E * E * E * E * E)
theorem onC_rat {A B X Y E : Int} {u : Rat} (h : OnC A B X Y E) (hu : (E : Rat) * u = 1) : On (A : Rat) B ((X : Rat) * (u * u)) ((Y : Rat) * (u * u * u)) := by
  have h1 : (Y : Rat) * Y = X * X * X + A * X * (E * E * E * E) + B * (E * E * E * E * E * E) := by
    have := congrArg (fun z : Int => (z : Rat)) h
    simpa only [Rat.intCast_mul, Rat.intCast_add] using this
  unfold On
  grind
theorem gcd_y {A B X Y E : Int} (h : OnC A B X Y E) (g : Int.gcd X E = 1) : Int.gcd Y E = 1 := by
  have h1 : Y * Y = X * X * X + (A * X * (E * E * E) + B * (E * E * E * E * E)) * E := by unfold OnC at h; grind
  have h2 : Int.gcd (Y * Y) E = 1 := by
    rw [h1, Int.gcd_add_mul_right_left]
    exact gcd_mul1 (gcd_mul1 g g) g
  unfold Int.gcd at h2 ⊢
  rw [Int.natAbs_mul] at h2
  exact Nat.Coprime.coprime_mul_right h2
theorem torsion_whole {A B X Y E : Int} {u : Rat} (hE : 1 ≤ E) (g : Int.gcd X E = 1) (h : OnC A B X Y E) (hu : (E : Rat) * u = 1) {n : Nat} (h1 : 1 ≤ n) (h2 : n ≤ 12)
    (hn : nmul (A : Rat) n (some ((X : Rat) * (u * u), (Y : Rat) * (u * u * u))) = none) : E = 1 := by
  by_cases hE1 : E = 1
  · exact hE1
  exfalso
  have hE2 : 1 < E := by omega
  have gY := gcd_y h g
  have hY : Y ≠ 0 := by
    rintro rfl
    rw [Int.gcd_zero_left] at gY
    omega
  have hYr : (Y : Rat) ≠ 0 := fun h0 => hY (Rat.intCast_eq_zero_iff.1 h0)
  have z1 : ((X : Rat) * E / Y) * ((Y : Rat) * (u * u * u)) = (X : Rat) * (u * u) := by
    generalize (X : Rat) = x at *; generalize (Y : Rat) = y at *; generalize (E : Rat) = e at *; grind
  have w1 : ((E : Rat) * E * E / Y) * ((Y : Rat) * (u * u * u)) = 1 := by
    generalize (Y : Rat) = y at *; generalize (E : Rat) = e at *; grind
  have hk : Ker E (some ((X : Rat) * (u * u), (Y : Rat) * (u * u * u))) := by
    refine ⟨_, _, z1, w1, ⟨X, Y, gY, ?_⟩, ⟨1, Y, gY, ?_⟩⟩
    · rw [Int.pow_one, Rat.intCast_mul]; generalize (X : Rat) = x at *; generalize (Y : Rat) = y at *; generalize (E : Rat) = e at *; grind
    · rw [show E ^ 3 * 1 = E * E * E by simp [Int.pow_succ], Rat.intCast_mul, Rat.intCast_mul]; generalize (Y : Rat) = y at *; generalize (E : Rat) = e at *; grind
  obtain ⟨-, m, d, gd, hm⟩ := ker_mul hE2 (onC_rat h hu) hk n
  rw [hn, zof_eq z1 w1] at hm
  have h5 : (((-(n : Int)) * (X * E) * d : Int) : Rat) = ((E ^ 5 * m * Y : Int) : Rat) := by
    rw [Rat.intCast_mul (E ^ 5 * m), ← hm]
    simp only [Rat.intCast_mul, Rat.intCast_neg, zof]
    generalize ((n : Int) : Rat) = nn at *; generalize (X : Rat) = x at *; generalize (Y : Rat) = y at *; generalize (E : Rat) = e at *; generalize (d : Rat) = dd at *
    grind
  have h6 := Rat.intCast_inj.1 h5
  have h7 : E * ((n : Int) * (X * d)) = E * (E ^ 4 * (-(m * Y))) := by
    have : E ^ 5 = E * E ^ 4 := by rw [Int.pow_succ, Int.mul_comm]
    rw [this] at h6
    generalize E ^ 4 = e4 at *
    grind
  have h8 := Int.eq_of_mul_eq_mul_left (by omega) h7
  have gXd : Int.gcd (X * d) (E ^ 4) = 1 := by
    have := gcd_mul1 g gd
    unfold Int.gcd at this ⊢
    rw [Int.natAbs_pow]
    exact Nat.Coprime.pow_right 4 this
  have h9 : E ^ 4 ∣ (n : Int) := by
    refine dvd_of_gcd1 (b := X * d) ?_ ?_
    · exact ⟨_, by rw [Int.mul_comm (X * d)]; exact h8⟩
    · rw [Int.gcd_comm]; exact gXd
  have h10 := Int.le_of_dvd (by omega) h9
  have h11 : (2 : Int) ^ 4 ≤ E ^ 4 := by
    have e4 : E ^ 4 = (E * E) * (E * E) := by simp [Int.pow_succ, Int.mul_assoc]
    rw [e4]
    have : (2 : Int) * 2 ≤ E * E := Int.mul_le_mul (by omega) (by omega) (by omega) (by omega)
    have := Int.mul_le_mul this this (by omega) (by omega)
    omega
  omega

theorem rat_num_den (q : Rat) : q * (q.den : Rat) = (q.num : Rat) := by
  have h : q = (q.num : Rat) / (q.den : Rat) := by
    have h1 := Rat.mkRat_eq_div q.num q.den
    rw [Rat.mkRat_self] at h1
    exact h1
  have h2 : (q.den : Rat) ≠ 0 := by
    intro h0
    exact q.den_nz (Rat.natCast_eq_zero_iff.1 h0)
  have h3 := Rat.div_mul_cancel (a := (q.num : Rat)) h2
  rw [← h] at h3
  exact h3
theorem disc_ne {A B : Int} (ns : 4 * A * A * A + 27 * B * B ≠ 0) : 4 * (A : Rat) * A * A + 27 * (B : Rat) * B ≠ 0 := by
  intro h0
  apply ns
  have : ((4 * A * A * A + 27 * B * B : Int) : Rat) = ((0 : Int) : Rat) := by
    simp only [Rat.intCast_mul, Rat.intCast_add]
    exact h0
  exact Rat.intCast_inj.1 this
/-- What Nagell and Lutz say of the y of a torsion point of a small order. -/
theorem lutz {A B X Y : Int} (ns : 4 * A * A * A + 27 * B * B ≠ 0) (h : OnC A B X Y 1) (hY : Y ≠ 0) {n : Nat} (h1 : 1 ≤ n) (h2 : n ≤ 12)
    (hn : nmul (A : Rat) n (some ((X : Rat), (Y : Rat))) = none) : Y * Y ∣ 4 * A * A * A + 27 * B * B := by
  have hon : On (A : Rat) B (X : Rat) (Y : Rat) := by
    have := onC_rat h (u := 1) (by simp)
    simpa using this
  have hYr : (Y : Rat) ≠ 0 := fun h0 => hY (Rat.intCast_eq_zero_iff.1 h0)
  have nsr := disc_ne ns
  generalize hl : (3 * (X : Rat) * X + A) / (2 * Y) = l
  have hl2 : l * (2 * (Y : Rat)) = 3 * (X : Rat) * X + A := by
    rw [← hl]; have : 2 * (Y : Rat) ≠ 0 := by grind
    exact ndiv this
  have hd0 : (l.den : Rat) ≠ 0 := fun h0 => l.den_nz (Rat.natCast_eq_zero_iff.1 h0)
  have hdc : ((l.den : Int) : Rat) = (l.den : Rat) := Rat.intCast_natCast _
  have hnd := rat_num_den l
  rw [← hdc] at hnd hd0
  have hred : Int.gcd l.num (l.den : Int) = 1 := l.reduced
  have hpos : 1 ≤ (l.den : Int) := by have := l.den_pos; omega
  generalize hE : (l.den : Int) = E at *
  generalize l.num = N at *
  generalize hu : (E : Rat)⁻¹ = u
  have hEu : (E : Rat) * u = 1 := by rw [← hu]; exact Rat.mul_inv_cancel _ hd0
  have h2P : add (A : Rat) (some ((X : Rat), (Y : Rat))) (some ((X : Rat), (Y : Rat))) = some (l * l - X - X, l * (X - (l * l - X - X)) - Y) := by
    refine add_of_sum two_rat hon hon ⟨l, .inr ⟨rfl, rfl, hYr, ?_⟩, rfl, rfl⟩
    exact hl2
  have e1 : l * l - X - X = ((N * N - 2 * X * (E * E) : Int) : Rat) * (u * u) := by
    simp only [Rat.intCast_mul, Rat.intCast_sub]
    show _ = ((N : Rat) * N - 2 * X * (E * E)) * (u * u)
    generalize (X : Rat) = x at *; generalize (Y : Rat) = y at *; generalize (E : Rat) = e at *; generalize (N : Rat) = nn at *
    grind
  have e2 : l * (X - (l * l - X - X)) - Y = ((N * (X * (E * E) - (N * N - 2 * X * (E * E))) - Y * (E * E * E) : Int) : Rat) * (u * u * u) := by
    simp only [Rat.intCast_mul, Rat.intCast_sub]
    show _ = ((N : Rat) * (X * (E * E) - (N * N - 2 * X * (E * E))) - Y * (E * E * E)) * (u * u * u)
    generalize (X : Rat) = x at *; generalize (Y : Rat) = y at *; generalize (E : Rat) = e at *; generalize (N : Rat) = nn at *
    grind
  have hon2 := add_on (p := some ((X : Rat), (Y : Rat))) (q := some ((X : Rat), (Y : Rat))) (a := (A : Rat)) (b := (B : Rat)) two_rat hon hon
  have hn2 : nmul (A : Rat) n (add (A : Rat) (some ((X : Rat), (Y : Rat))) (some ((X : Rat), (Y : Rat)))) = none := by
    have q : add (A : Rat) (some ((X : Rat), (Y : Rat))) (some ((X : Rat), (Y : Rat))) = nmul (A : Rat) 2 (some ((X : Rat), (Y : Rat))) := by
      show _ = add _ (add _ none _) _
      rw [zero_add]
    have hp : OnO (A : Rat) B (some ((X : Rat), (Y : Rat))) := hon
    rw [q, ← nmul_mul two_rat nsr hp, Nat.mul_comm, nmul_mul two_rat nsr hp, hn, nmul_none]
  rw [h2P] at hon2 hn2
  rw [e2, e1] at hon2 hn2
  have hE1 : E = 1 := by
    refine torsion_whole (A := A) (B := B) hpos ?_ ?_ hEu h1 h2 hn2
    · have : N * N - 2 * X * (E * E) = N * N + (-(2 * X * E)) * E := by grind
      rw [this, Int.gcd_add_mul_right_left]
      exact gcd_mul1 hred hred
    · generalize N * N - 2 * X * (E * E) = X3 at *
      generalize N * (X * (E * E) - X3) - Y * (E * E * E) = Y3 at *
      have q : ((Y3 * Y3 : Int) : Rat) = ((X3 * X3 * X3 + A * X3 * (E * E * E * E) + B * (E * E * E * E * E * E) : Int) : Rat) := by
        simp only [Rat.intCast_mul, Rat.intCast_add]
        clear hn2 e1 e2
        unfold OnO On at hon2
        generalize (X3 : Rat) = x at *; generalize (Y3 : Rat) = y at *; generalize (E : Rat) = e at *; generalize (A : Rat) = a at *; generalize (B : Rat) = b at *
        grind
      exact Rat.intCast_inj.1 q
  subst hE1
  have q1 : N * (2 * Y) = 3 * X * X + A := by
    have : ((N * (2 * Y) : Int) : Rat) = ((3 * X * X + A : Int) : Rat) := by
      simp only [Rat.intCast_mul, Rat.intCast_add]
      have : l = (N : Rat) := by rw [← hnd]; simp
      rw [← this]; exact hl2
    exact Rat.intCast_inj.1 this
  have q2 : Y * Y = X * X * X + A * X + B := by unfold OnC at h; simpa using h
  refine ⟨(3 * X * X + 4 * A) * (4 * N * N) - 27 * (X * X * X + A * X - B), ?_⟩
  have q3 : (3 * X * X + A) * (3 * X * X + A) = Y * Y * (4 * N * N) := by rw [← q1]; grind
  have q4 : 4 * A * A * A + 27 * B * B = (3 * X * X + 4 * A) * ((3 * X * X + A) * (3 * X * X + A)) - 27 * (X * X * X + A * X - B) * (X * X * X + A * X + B) := by grind
  rw [q4, q3, ← q2]; grind
/-! the sum of the program's points, by the rational ones -/
theorem rat_sq_int {q : Rat} {N : Int} (h : q * q = (N : Rat)) : ∃ m : Int, q = (m : Rat) ∧ m * m = N := by
  have h1 : (q ^ 2).den = 1 := by
    have : q ^ 2 = (N : Rat) := by rw [Rat.pow_succ, Rat.pow_one]; exact h
    rw [this, Rat.den_intCast]
  rw [Rat.den_pow] at h1
  have h2 : q.den = 1 := by
    have h3 : q.den ∣ 1 := by rw [← h1]; exact ⟨q.den ^ 1, by rw [Nat.pow_succ, Nat.pow_one, Nat.mul_comm]⟩
    exact Nat.dvd_one.1 h3
  have h4 : q = (q.num : Rat) := Rat.ext (by rw [Rat.num_intCast]) (by rw [Rat.den_intCast, h2])
  refine ⟨q.num, h4, ?_⟩
  rw [h4] at h
  rw [← Rat.intCast_mul] at h
  have := Rat.intCast_inj.1 h
  simpa using this
/-- A fraction in lowest terms is told by its parts. -/
theorem rat_lowest {q : Rat} {x : Int} {d : Nat} (hd : d ≠ 0) (hg : Nat.Coprime x.natAbs d) (h : q * (d : Rat) = (x : Rat)) : q.num = x ∧ q.den = d := by
  have e : q = mkRat x d := by
    rw [Rat.mkRat_eq_div]
    have h2 : (d : Rat) ≠ 0 := fun h0 => hd (Rat.natCast_eq_zero_iff.1 h0)
    rw [← h]
    exact (Rat.mul_div_cancel h2).symm
  rw [e, Rat.num_mkRat, Rat.den_mkRat, if_neg hd, if_neg hd]
  have hg2 : d.gcd x.natAbs = 1 := by rw [Nat.gcd_comm]; exact hg
  rw [hg2]
  simp
theorem rat_low {q : Rat} {x d : Int} (hd : 0 < d) (hg : Int.gcd x d = 1) (h : q * (d : Rat) = (x : Rat)) : q.num = x ∧ (q.den : Int) = d := by
  have hn : (d.toNat : Int) = d := Int.toNat_of_nonneg (by omega)
  have h9 : ((d.toNat : Nat) : Rat) = (d : Rat) := by rw [← Rat.intCast_natCast, hn]
  have := rat_lowest (q := q) (x := x) (d := d.toNat) (by omega) (by have h1 : Nat.Coprime x.natAbs d.natAbs := hg; rwa [show d.natAbs = d.toNat by omega] at h1) (by rw [h9]; exact h)
  exact ⟨this.1, by rw [this.2, hn]⟩
/-- A point with rational coordinates whose x has a square for its denominator has whole coordinates over it. -/
theorem whole_y {A B : Int} {x y : Rat} {e : Int} (h : On (A : Rat) B x y) (he : (x.den : Int) = e * e) :
    ∃ Y : Int, y * ((e * e * e : Int) : Rat) = (Y : Rat) ∧ Y * Y = cvI A B x.num e := by
  have hx := rat_num_den x
  have hd : (x.den : Rat) = ((e * e : Int) : Rat) := by rw [← he, Rat.intCast_natCast]
  rw [hd] at hx
  have h2 : (y * ((e * e * e : Int) : Rat)) * (y * ((e * e * e : Int) : Rat)) = ((cvI A B x.num e : Int) : Rat) := by
    unfold cvI On at *
    simp only [Rat.intCast_mul, Rat.intCast_add] at hx ⊢
    generalize (x.num : Rat) = n at *
    grind
  obtain ⟨m, h3, h4⟩ := rat_sq_int h2
  exact ⟨m, h3, h4⟩
/-- Which numbers e may stand under a rational x: those with the square of e for its denominator. -/
theorem under_iff {q : Rat} {e X : Int} (he : 0 < e) (h1 : q * ((e * e : Int) : Rat) = (X : Rat)) (h2 : Int.gcd X e = 1) : q.num = X ∧ (q.den : Int) = e * e :=
  rat_low (Int.mul_pos he he) (by have := gcd_mul1 (a := e) (b := e) (E := X) (by rw [Int.gcd_comm]; exact h2) (by rw [Int.gcd_comm]; exact h2); rw [Int.gcd_comm]; exact this) h1
theorem under_of {q : Rat} {e : Int} (h : (q.den : Int) = e * e) : q * ((e * e : Int) : Rat) = (q.num : Rat) ∧ Int.gcd q.num e = 1 := by
  constructor
  · rw [← h, Rat.intCast_natCast]; exact rat_num_den q
  · have h1 := q.reduced
    have h5 : q.den = e.natAbs * e.natAbs := by
      have := Int.natAbs_mul e e
      omega
    rw [h5] at h1
    exact Nat.Coprime.coprime_mul_right_right h1
/-- The rational point of a point of the program. -/
def toQ (p : P3) : Option (Rat × Rat) := if p.2.2 = 0 then none else some ((p.1 : Rat) * ((p.2.2 : Rat)⁻¹ * (p.2.2 : Rat)⁻¹), (p.2.1 : Rat) * ((p.2.2 : Rat)⁻¹ * (p.2.2 : Rat)⁻¹ * (p.2.2 : Rat)⁻¹))
/-- The program's point of a rational one, if it is small enough. -/
def rep : Option (Rat × Rat) → Option P3
  | none => some (0, 0, 0)
  | some (x, y) => if rt x.den * rt x.den = x.den ∧ rt x.den ≤ 20 ∧ -10000 ≤ x.num ∧ x.num ≤ 10000 then some (x.num, (y * ((rt x.den * rt x.den * rt x.den : Int) : Rat)).num, rt x.den) else none
theorem rep_fin (x y : Rat) : rep (some (x, y)) = if rt x.den * rt x.den = x.den ∧ rt x.den ≤ 20 ∧ -10000 ≤ x.num ∧ x.num ≤ 10000 then some (x.num, (y * ((rt x.den * rt x.den * rt x.den : Int) : Rat)).num, rt x.den) else none := rfl
/-- A point of a curve, as the program means it. -/
def PV (A B : Int) (p : P3) : Prop := p = (0, 0, 0) ∨ (-10000 ≤ p.1 ∧ p.1 ≤ 10000 ∧ 1 ≤ p.2.2 ∧ p.2.2 ≤ 20 ∧ Int.gcd p.1 p.2.2 = 1 ∧ p.2.1 * p.2.1 = cvI A B p.1 p.2.2)
def sumO (A : Int) (p q : P3) : Option P3 := rep (add (A : Rat) (toQ p) (toQ q))
theorem inv_ok {E : Int} (h : E ≠ 0) : (E : Rat) * (E : Rat)⁻¹ = 1 := Rat.mul_inv_cancel _ (fun h0 => h (Rat.intCast_eq_zero_iff.1 h0))
theorem cvI_on {A B X Y E : Int} (h : Y * Y = cvI A B X E) : OnC A B X Y E := by unfold OnC; unfold cvI at h; grind
theorem PV.on {A B : Int} {p : P3} (h : PV A B p) : OnO (A : Rat) B (toQ p) := by
  unfold toQ
  split
  · trivial
  · rename_i h0
    rcases h with rfl | ⟨-, -, -, -, -, h5⟩
    · exact absurd rfl h0
    · exact onC_rat (cvI_on h5) (inv_ok h0)
/-- A representation, once found, is the one. -/
theorem rep_hit {A B : Int} {x y : Rat} {X e : Int} (hon : On (A : Rat) B x y) (e1 : 1 ≤ e) (e2 : e ≤ 20) (x1 : -10000 ≤ X) (x2 : X ≤ 10000) (hx : x * ((e * e : Int) : Rat) = (X : Rat)) (hg : Int.gcd X e = 1) :
    ∃ Y : Int, rep (some (x, y)) = some (X, Y, e) ∧ y * ((e * e * e : Int) : Rat) = (Y : Rat) ∧ Y * Y = cvI A B X e := by
  obtain ⟨h1, h2⟩ := under_iff (by omega) hx hg
  obtain ⟨Y, h3, h4⟩ := whole_y hon h2
  have hr : rt x.den = e := rt_sq (by omega) h2.symm
  refine ⟨Y, ?_, h3, by rw [← h1]; exact h4⟩
  rw [rep_fin, hr, if_pos ⟨h2.symm, e2, by omega, by omega⟩, h3, Rat.num_intCast, h1]
theorem rep_some {A B : Int} {x y : Rat} (hon : On (A : Rat) B x y) {X Y e : Int} (h : rep (some (x, y)) = some (X, Y, e)) :
    1 ≤ e ∧ e ≤ 20 ∧ -10000 ≤ X ∧ X ≤ 10000 ∧ x * ((e * e : Int) : Rat) = (X : Rat) ∧ Int.gcd X e = 1 ∧ y * ((e * e * e : Int) : Rat) = (Y : Rat) ∧ Y * Y = cvI A B X e := by
  rw [rep_fin] at h
  split at h
  · rename_i hc
    obtain ⟨c1, c2, c3, c4⟩ := hc
    have hp := x.den_pos
    have hrn := rt_nonneg x.den
    simp only [Option.some.injEq, Prod.mk.injEq] at h
    obtain ⟨h1, h2, h3⟩ := h
    rw [h3] at c1 c2 h2 hrn
    have he : 1 ≤ e := by
      rcases Int.lt_or_le 0 e with g | g
      · omega
      · have : e = 0 := by omega
        subst this; simp at c1; omega
    obtain ⟨u1, u2⟩ := under_of c1.symm
    obtain ⟨Y', k1, k2⟩ := whole_y hon c1.symm
    rw [k1, Rat.num_intCast] at h2
    subst h2; subst h1
    exact ⟨he, c2, c3, c4, u1, u2, k1, k2⟩
  · cases h
theorem toQ_fin {X Y E : Int} {x y : Rat} (hE : E ≠ 0) (hx : x * ((E * E : Int) : Rat) = (X : Rat)) (hy : y * ((E * E * E : Int) : Rat) = (Y : Rat)) : toQ (X, Y, E) = some (x, y) := by
  have hu := inv_ok hE
  unfold toQ
  rw [if_neg hE]
  simp only [Option.some.injEq, Prod.mk.injEq]
  rw [← hx, ← hy]
  simp only [Rat.intCast_mul]
  generalize (E : Rat)⁻¹ = u at *
  generalize (E : Rat) = e at *
  constructor <;> grind
theorem fin_toQ {X Y E : Int} (hE : E ≠ 0) : ∃ x y : Rat, toQ (X, Y, E) = some (x, y) ∧ x * ((E * E : Int) : Rat) = (X : Rat) ∧ y * ((E * E * E : Int) : Rat) = (Y : Rat) := by
  have hu := inv_ok hE
  refine ⟨_, _, by unfold toQ; rw [if_neg hE], ?_, ?_⟩
  · simp only [Rat.intCast_mul]
    generalize (E : Rat)⁻¹ = u at *
    generalize (E : Rat) = e at *
    generalize (X : Rat) = xx at *
    show xx * (u * u) * (e * e) = xx
    grind
  · simp only [Rat.intCast_mul]
    generalize (E : Rat)⁻¹ = u at *
    generalize (E : Rat) = e at *
    generalize (Y : Rat) = xx at *
    show xx * (u * u * u) * (e * e * e) = xx
    grind
theorem rep_toQ {A B : Int} {p : P3} (h : PV A B p) : rep (toQ p) = some p := by
  rcases h with rfl | ⟨h1, h2, h3, h4, h5, h6⟩
  · rfl
  · obtain ⟨X, Y, E⟩ := p
    simp only at *
    have hE : E ≠ 0 := by omega
    obtain ⟨x, y, hq, hx, hy⟩ := fin_toQ (X := X) (Y := Y) hE
    have hon := PV.on (A := A) (B := B) (p := (X, Y, E)) (.inr ⟨h1, h2, h3, h4, h5, h6⟩)
    rw [hq] at hon ⊢
    obtain ⟨Y', r1, r2, r3⟩ := rep_hit hon h3 h4 h1 h2 hx h5
    rw [r1]
    have : Y' = Y := Rat.intCast_inj.1 (by rw [← r2, hy])
    rw [this]
theorem rep_PV {A B : Int} {q : Option (Rat × Rat)} (hon : OnO (A : Rat) B q) {r : P3} (h : rep q = some r) : PV A B r ∧ toQ r = q := by
  rcases q with _ | ⟨x, y⟩
  · simp only [rep, Option.some.injEq] at h
    subst h
    exact ⟨.inl rfl, by unfold toQ; rw [if_pos rfl]⟩
  · obtain ⟨X, Y, e⟩ := r
    obtain ⟨h1, h2, h3, h4, h5, h6, h7, h8⟩ := rep_some hon h
    exact ⟨.inr ⟨h3, h4, h1, h2, h6, h8⟩, toQ_fin (by omega) h5 h7⟩
theorem sumO_PV {A B : Int} {p q r : P3} (hp : PV A B p) (hq : PV A B q) (h : sumO A p q = some r) : PV A B r ∧ toQ r = add (A : Rat) (toQ p) (toQ q) := rep_PV (add_on two_rat hp.on hq.on) h
/-! ### the sum by whole numbers -/
def sN (A : Int) (p q : P3) : Int := if p = q then 3 * p.1 * p.1 + A * p.2.2 * p.2.2 * p.2.2 * p.2.2 else q.2.1 * p.2.2 * p.2.2 * p.2.2 - p.2.1 * q.2.2 * q.2.2 * q.2.2
def sD (p q : P3) : Int := if p = q then 2 * p.2.1 * p.2.2 else p.2.2 * q.2.2 * (q.1 * p.2.2 * p.2.2 - p.1 * q.2.2 * q.2.2)
def opp (p : P3) : P3 := (p.1, -p.2.1, p.2.2)
theorem PV.fin {A B : Int} {p : P3} (h : PV A B p) (h0 : p.2.2 ≠ 0) : -10000 ≤ p.1 ∧ p.1 ≤ 10000 ∧ 1 ≤ p.2.2 ∧ p.2.2 ≤ 20 ∧ Int.gcd p.1 p.2.2 = 1 ∧ p.2.1 * p.2.1 = cvI A B p.1 p.2.2 := by
  rcases h with rfl | h
  · exact absurd rfl h0
  · exact h
theorem toQ_opp (p : P3) : toQ (opp p) = neg (toQ p) := by
  unfold toQ opp
  simp only
  split
  · rfl
  · simp only [neg, Option.some.injEq, Prod.mk.injEq, true_and, Rat.intCast_neg, Rat.neg_mul]
theorem opp_PV {A B : Int} {p : P3} (h : PV A B p) : PV A B (opp p) := by
  rcases h with rfl | ⟨h1, h2, h3, h4, h5, h6⟩
  · left; rfl
  · exact .inr ⟨h1, h2, h3, h4, h5, by show -p.2.1 * -p.2.1 = cvI A B p.1 p.2.2; rw [← h6]; grind⟩
theorem toQ_inj {A B : Int} {p q : P3} (hp : PV A B p) (hq : PV A B q) (h : toQ p = toQ q) : p = q := by
  have h1 := rep_toQ hp
  rw [h, rep_toQ hq] at h1
  exact (Option.some.inj h1).symm
theorem add_opp {A B : Int} {p q : P3} (hp : PV A B p) (hq : PV A B q) (h : p = opp q) : sumO A p q = some (0, 0, 0) := by
  unfold sumO
  have : toQ q = neg (toQ p) := by rw [h, toQ_opp, neg_neg]
  rw [this, add_neg_self two_rat hp.on]; rfl
theorem add_slope {A B : Int} {p q : P3} (hp : PV A B p) (hq : PV A B q) (p0 : p.2.2 ≠ 0) (q0 : q.2.2 ≠ 0) (hno : p ≠ opp q) :
    sD p q ≠ 0 ∧ ∃ x1 y1 x2 y2 : Rat, On (A : Rat) B x1 y1 ∧ On (A : Rat) B x2 y2 ∧ x1 * ((p.2.2 * p.2.2 : Int) : Rat) = (p.1 : Rat) ∧ y1 * ((p.2.2 * p.2.2 * p.2.2 : Int) : Rat) = (p.2.1 : Rat) ∧ x2 * ((q.2.2 * q.2.2 : Int) : Rat) = (q.1 : Rat) ∧ y2 * ((q.2.2 * q.2.2 * q.2.2 : Int) : Rat) = (q.2.1 : Rat) ∧
      ∀ l : Rat, l * (sD p q : Rat) = (sN A p q : Rat) → add (A : Rat) (toQ p) (toQ q) = some (l * l - x1 - x2, l * (x1 - (l * l - x1 - x2)) - y1) := by
  have on1 := hp.on; have on2 := hq.on
  have hqp : toQ p ≠ neg (toQ q) := by
    intro h0; rw [← toQ_opp] at h0
    exact hno (toQ_inj hp (opp_PV hq) h0)
  obtain ⟨x1, y1, e1, f1, g1⟩ := fin_toQ (X := p.1) (Y := p.2.1) p0
  obtain ⟨x2, y2, e2, f2, g2⟩ := fin_toQ (X := q.1) (Y := q.2.1) q0
  have ee1 : toQ p = some (x1, y1) := e1
  have ee2 : toQ q = some (x2, y2) := e2
  rw [ee1] at on1 hqp; rw [ee2] at on2 hqp
  have p0r : (p.2.2 : Rat) ≠ 0 := fun h0 => p0 (Rat.intCast_eq_zero_iff.1 h0)
  have q0r : (q.2.2 : Rat) ≠ 0 := fun h0 => q0 (Rat.intCast_eq_zero_iff.1 h0)
  have h2 : On (A : Rat) B x1 y1 := on1
  have h3 : On (A : Rat) B x2 y2 := on2
  by_cases hpq : p = q
  · subst hpq
    rw [ee1] at ee2
    simp only [Option.some.injEq, Prod.mk.injEq] at ee2
    obtain ⟨rfl, rfl⟩ := ee2
    have hy : y1 ≠ 0 := by rintro rfl; apply hqp; simp [neg]
    have hY : p.2.1 ≠ 0 := by
      intro h0; apply hy
      rw [h0] at g1
      simp only [Rat.intCast_mul] at g1
      generalize (p.2.2 : Rat) = e at *
      have : ((0 : Int) : Rat) = 0 := rfl
      rw [this] at g1
      grind
    have hsd : sD p p = 2 * p.2.1 * p.2.2 := by unfold sD; rw [if_pos rfl]
    have hsn : sN A p p = 3 * p.1 * p.1 + A * p.2.2 * p.2.2 * p.2.2 * p.2.2 := by unfold sN; rw [if_pos rfl]
    refine ⟨?_, x1, y1, x1, y1, h2, h2, f1, g1, f1, g1, ?_⟩
    · rw [hsd]; exact Int.mul_ne_zero (Int.mul_ne_zero (by decide) hY) p0
    · intro l hl
      rw [ee1]
      refine add_of_sum two_rat h2 h2 ⟨l, .inr ⟨rfl, rfl, hy, ?_⟩, rfl, rfl⟩
      rw [hsd, hsn] at hl
      simp only [Rat.intCast_mul, Rat.intCast_add] at hl f1 g1
      have t2 : ((2 : Int) : Rat) = 2 := rfl
      have t3 : ((3 : Int) : Rat) = 3 := rfl
      rw [t2, t3, ← f1, ← g1] at hl
      generalize (p.2.2 : Rat) = e at *
      generalize (A : Rat) = a at *
      have h4 : (l * (2 * y1)) * (e * e * e * e) = (3 * x1 * x1 + a) * (e * e * e * e) := by grind
      have h5 : e * e * e * e ≠ 0 := by grind
      exact canc h4.symm h5
  · have hx : x2 - x1 ≠ 0 := by
      intro h0
      have h4 : x2 = x1 := by grind
      subst h4
      have h5 : y2 = y1 := by
        have : (y2 - y1) * (y2 + y1) = 0 := by unfold On at h2 h3; grind
        by_cases h6 : y2 + y1 = 0
        · exfalso; apply hqp; simp only [neg, Option.some.injEq, Prod.mk.injEq, true_and]; grind
        · grind
      subst h5
      exact hpq (toQ_inj hp hq (by rw [ee1, ee2]))
    have hsd : sD p q = p.2.2 * q.2.2 * (q.1 * p.2.2 * p.2.2 - p.1 * q.2.2 * q.2.2) := by unfold sD; rw [if_neg hpq]
    have hsn : sN A p q = q.2.1 * p.2.2 * p.2.2 * p.2.2 - p.2.1 * q.2.2 * q.2.2 * q.2.2 := by unfold sN; rw [if_neg hpq]
    have hsr : (sD p q : Rat) = (x2 - x1) * ((p.2.2 : Rat) * p.2.2 * p.2.2 * (q.2.2 * q.2.2 * q.2.2)) := by
      rw [hsd]
      simp only [Rat.intCast_mul, Rat.intCast_sub] at f1 f2 ⊢
      rw [← f1, ← f2]
      generalize (p.2.2 : Rat) = e at *; generalize (q.2.2 : Rat) = f at *
      grind
    have hnz : (p.2.2 : Rat) * p.2.2 * p.2.2 * (q.2.2 * q.2.2 * q.2.2) ≠ 0 := by
      generalize (p.2.2 : Rat) = e at *; generalize (q.2.2 : Rat) = f at *
      grind
    refine ⟨?_, x1, y1, x2, y2, h2, h3, f1, g1, f2, g2, ?_⟩
    · intro h0
      rw [h0] at hsr
      have t0 : ((0 : Int) : Rat) = 0 := rfl
      rw [t0] at hsr
      generalize (p.2.2 : Rat) * p.2.2 * p.2.2 * (q.2.2 * q.2.2 * q.2.2) = T at *
      grind
    · intro l hl
      rw [ee1, ee2]
      refine add_of_sum two_rat h2 h3 ⟨l, .inl ⟨hx, ?_⟩, rfl, rfl⟩
      have hnr : (sN A p q : Rat) = (y2 - y1) * ((p.2.2 : Rat) * p.2.2 * p.2.2 * (q.2.2 * q.2.2 * q.2.2)) := by
        rw [hsn]
        simp only [Rat.intCast_mul, Rat.intCast_sub] at g1 g2 ⊢
        rw [← g1, ← g2]
        generalize (p.2.2 : Rat) = e at *; generalize (q.2.2 : Rat) = f at *
        grind
      rw [hsr, hnr] at hl
      generalize (p.2.2 : Rat) * p.2.2 * p.2.2 * (q.2.2 * q.2.2 * q.2.2) = T at *
      refine canc (T := T) ?_ hnz
      rw [← hl]; grind
theorem sq_int_le {n d : Int} (hd : 0 ≤ d) (h : n * n ≤ 30000 * (d * d)) : (n.natAbs : Int) ≤ 200 * d := by
  rcases Int.lt_or_le (200 * d) (n.natAbs : Int) with hlt | hle
  · exfalso
    have h1 : (n.natAbs : Int) * (n.natAbs : Int) = n * n := Int.natAbs_mul_self' n
    have h2 : (200 * d + 1) * (200 * d + 1) ≤ (n.natAbs : Int) * (n.natAbs : Int) := Int.mul_le_mul (by omega) (by omega) (by omega) (by omega)
    have h3 : (200 * d + 1) * (200 * d + 1) = 40000 * (d * d) + 400 * d + 1 := by grind
    have h4 : 0 ≤ d * d := Int.mul_nonneg hd hd
    omega
  · exact hle
theorem x_small {x : Rat} {X k : Int} (hk : 1 ≤ k) (hX : X ≤ 10000) (h : x * (k : Rat) = (X : Rat)) : x ≤ 10000 := by
  have hk0 : (0 : Rat) < (k : Rat) := by
    have : ((0 : Int) : Rat) < (k : Rat) := Rat.intCast_lt_intCast.2 (by omega)
    exact this
  rcases Classical.em (x ≤ 10000) with h1 | h1
  · exact h1
  · exfalso
    have h2 : (10000 : Rat) < x := Rat.not_le.1 h1
    have h3 := Rat.mul_lt_mul_of_pos_right h2 hk0
    rw [h] at h3
    have h4 : ((10000 * k : Int) : Rat) < (X : Rat) := by rw [Rat.intCast_mul]; exact h3
    have := Rat.intCast_lt_intCast.1 h4
    omega
theorem slope_small {l x1 x2 x3 : Rat} (h : l * l = x1 + x2 + x3) (h1 : x1 ≤ 10000) (h2 : x2 ≤ 10000) (h3 : x3 ≤ 10000) : (l.num.natAbs : Int) ≤ 200 * (l.den : Int) := by
  refine sq_int_le (by omega) ?_
  have hn := rat_num_den l
  have hd : (0 : Rat) ≤ (l.den : Rat) := Rat.natCast_nonneg
  have h4 : l * l ≤ 30000 := by rw [h]; grind
  have h5 : ((l.num * l.num : Int) : Rat) ≤ ((30000 * ((l.den : Int) * (l.den : Int)) : Int) : Rat) := by
    simp only [Rat.intCast_mul, Rat.intCast_natCast]
    rw [← hn]
    have h6 : 0 ≤ (l.den : Rat) * (l.den : Rat) := Rat.mul_nonneg hd hd
    have h7 := Rat.mul_le_mul_of_nonneg_right h4 h6
    have e : ((30000 : Int) : Rat) = 30000 := rfl
    grind
  exact Rat.intCast_le_intCast.1 h5
theorem den_le {l : Rat} {k : Int} (hk : 0 < k) {N : Int} (h : (l * (k : Rat)) * (l * (k : Rat)) = (N : Rat)) : (l.den : Int) ∣ k := by
  obtain ⟨m, h1, -⟩ := rat_sq_int h
  have hk2 : (k.toNat : Int) = k := Int.toNat_of_nonneg (by omega)
  have e : l = mkRat m k.toNat := by
    rw [Rat.mkRat_eq_div]
    have h9 : ((k.toNat : Nat) : Rat) = (k : Rat) := by rw [← Rat.intCast_natCast, hk2]
    have h8 : (k : Rat) ≠ 0 := fun h0 => by have := Rat.intCast_eq_zero_iff.1 h0; omega
    rw [h9, ← h1]
    exact (Rat.mul_div_cancel h8).symm
  have h2 : l.den ∣ k.toNat := by
    rw [e, Rat.den_mkRat]
    split
    · omega
    · exact Nat.div_dvd_of_dvd (Nat.gcd_dvd_left ..)
  rw [← hk2]
  exact Int.natCast_dvd_natCast.2 h2
theorem low_abs {l : Rat} {n m : Int} (hm : m ≠ 0) (hg : Int.gcd n m = 1) (h : l * (m : Rat) = (n : Rat)) : (l.den : Int) = m.natAbs ∧ l.num.natAbs = n.natAbs := by
  rcases Int.lt_or_le 0 m with g | g
  · have := rat_low g hg h
    constructor
    · rw [this.2]; omega
    · rw [this.1]
  · have h2 : l * ((-m : Int) : Rat) = ((-n : Int) : Rat) := by rw [Rat.intCast_neg, Rat.intCast_neg, ← h]; grind
    have := rat_low (q := l) (x := -n) (d := -m) (by omega) (by rw [Int.gcd_neg, Int.neg_gcd]; exact hg) h2
    constructor
    · rw [this.2]; omega
    · rw [this.1]; omega
def eeI (p q : P3) : Int := p.2.2 * p.2.2 * q.2.2 * q.2.2
def topI (p q : P3) (n m : Int) : Int := n * n * eeI p q - m * m * (p.1 * q.2.2 * q.2.2 + q.1 * p.2.2 * p.2.2)
def botI (p q : P3) (m : Int) : Int := m * m * eeI p q
def sideI (p : P3) (n m X e : Int) : Int := n * (p.1 * e * e - X * p.2.2 * p.2.2) * p.2.2 - p.2.1 * m * e * e
theorem sum_core {A B : Int} {p q : P3} (hp : PV A B p) (hq : PV A B q) (p0 : p.2.2 ≠ 0) (q0 : q.2.2 ≠ 0) (hno : p ≠ opp q) {n m d : Int} (hn : n * d = sN A p q) (hm : m * d = sD p q) :
    m ≠ 0 ∧ ∃ l x1 y1 x2 x3 : Rat, l * (m : Rat) = (n : Rat) ∧ x1 * ((p.2.2 * p.2.2 : Int) : Rat) = (p.1 : Rat) ∧ y1 * ((p.2.2 * p.2.2 * p.2.2 : Int) : Rat) = (p.2.1 : Rat) ∧ x2 * ((q.2.2 * q.2.2 : Int) : Rat) = (q.1 : Rat) ∧ l * l = x1 + x2 + x3 ∧
      On (A : Rat) B x3 (l * (x1 - x3) - y1) ∧ sumO A p q = rep (some (x3, l * (x1 - x3) - y1)) ∧ x3 * (botI p q m : Rat) = (topI p q n m : Rat) := by
  obtain ⟨h0, x1, y1, x2, y2, h1, h2, f1, g1, f2, g2, hadd⟩ := add_slope hp hq p0 q0 hno
  have hm0 : m ≠ 0 := by rintro rfl; rw [Int.zero_mul] at hm; exact h0 hm.symm
  have hd0 : d ≠ 0 := by rintro rfl; rw [Int.mul_zero] at hm; exact h0 hm.symm
  have hmr : (m : Rat) ≠ 0 := fun h => hm0 (Rat.intCast_eq_zero_iff.1 h)
  have hl : ((n : Rat) / m) * m = n := ndiv hmr
  have hls : ((n : Rat) / m) * (sD p q : Rat) = (sN A p q : Rat) := by
    rw [← hn, ← hm, Rat.intCast_mul, Rat.intCast_mul, ← Rat.mul_assoc, hl]
  have ha := hadd _ hls
  generalize (n : Rat) / m = l at *
  have hon := add_on two_rat hp.on hq.on
  rw [ha] at hon
  refine ⟨hm0, l, x1, y1, x2, l * l - x1 - x2, hl, f1, g1, f2, by grind, hon, by unfold sumO; rw [ha], ?_⟩
  unfold botI topI eeI
  simp only [Rat.intCast_mul, Rat.intCast_add, Rat.intCast_sub] at f1 f2 ⊢
  rw [← hl, ← f1, ← f2]
  generalize (p.2.2 : Rat) = e at *; generalize (q.2.2 : Rat) = f at *; generalize (m : Rat) = mm at *
  grind
theorem bot_pos {A B : Int} {p q : P3} (hp : PV A B p) (hq : PV A B q) (p0 : p.2.2 ≠ 0) (q0 : q.2.2 ≠ 0) {m : Int} (hm : m ≠ 0) : 0 < botI p q m := by
  obtain ⟨-, -, a1, a2, -⟩ := hp.fin p0
  obtain ⟨-, -, b1, b2, -⟩ := hq.fin q0
  unfold botI eeI
  have h1 : 0 < m * m := by
    rcases Int.lt_or_lt_of_ne hm with g | g
    · exact Int.mul_pos_of_neg_of_neg g g
    · exact Int.mul_pos g g
  exact Int.mul_pos h1 (Int.mul_pos (Int.mul_pos (Int.mul_pos (by omega) (by omega)) (by omega)) (by omega))
theorem sum_hit {A B : Int} {p q : P3} (hp : PV A B p) (hq : PV A B q) (p0 : p.2.2 ≠ 0) (q0 : q.2.2 ≠ 0) (hno : p ≠ opp q) {n m d : Int} (hn : n * d = sN A p q) (hm : m * d = sD p q)
    {e X : Int} (e1 : 1 ≤ e) (e2 : e ≤ 20) (x1 : -10000 ≤ X) (x2 : X ≤ 10000) (hx : botI p q m * X = topI p q n m * (e * e)) (hg : Int.gcd X e = 1) :
    ∃ Y : Int, sumO A p q = some (X, Y, e) ∧ Y * Y = cvI A B X e ∧ Y * (m * (p.2.2 * p.2.2 * p.2.2)) = e * sideI p n m X e := by
  obtain ⟨hm0, l, a1, b1, a2, a3, hl, f1, g1, f2, hll, hon, hs, hb⟩ := sum_core hp hq p0 q0 hno hn hm
  have hbp := bot_pos hp hq p0 q0 hm0
  have hbr : (botI p q m : Rat) ≠ 0 := fun h => by have := Rat.intCast_eq_zero_iff.1 h; omega
  have hx3 : a3 * ((e * e : Int) : Rat) = (X : Rat) := by
    have h1 : (botI p q m : Rat) * X = topI p q n m * ((e * e : Int) : Rat) := by
      rw [← Rat.intCast_mul, ← Rat.intCast_mul, hx]
    rw [← hb] at h1
    generalize ((e * e : Int) : Rat) = ee at *
    generalize (botI p q m : Rat) = D at *
    exact canc (T := D) (by rw [Rat.mul_comm (X : Rat)]; rw [h1]; grind) hbr
  obtain ⟨Y, r1, r2, r3⟩ := rep_hit hon e1 e2 x1 x2 hx3 hg
  refine ⟨Y, by rw [hs]; exact r1, r3, ?_⟩
  refine Rat.intCast_inj.1 ?_
  unfold sideI
  simp only [Rat.intCast_mul, Rat.intCast_sub] at *
  rw [← r2, ← hl, ← f1, ← g1, ← hx3]
  generalize (p.2.2 : Rat) = e1 at *; generalize (e : Rat) = f at *; generalize (m : Rat) = mm at *
  grind
theorem sum_miss {A B : Int} {p q : P3} (hp : PV A B p) (hq : PV A B q) (p0 : p.2.2 ≠ 0) (q0 : q.2.2 ≠ 0) (hno : p ≠ opp q) {n m d : Int} (hn : n * d = sN A p q) (hm : m * d = sD p q)
    {X Y e : Int} (h : sumO A p q = some (X, Y, e)) : 1 ≤ e ∧ e ≤ 20 ∧ -10000 ≤ X ∧ X ≤ 10000 ∧ botI p q m * X = topI p q n m * (e * e) ∧ Int.gcd X e = 1 := by
  obtain ⟨hm0, l, a1, b1, a2, a3, hl, f1, g1, f2, hll, hon, hs, hb⟩ := sum_core hp hq p0 q0 hno hn hm
  rw [hs] at h
  obtain ⟨r1, r2, r3, r4, r5, r6, r7, r8⟩ := rep_some hon h
  refine ⟨r1, r2, r3, r4, ?_, r6⟩
  refine Rat.intCast_inj.1 ?_
  rw [Rat.intCast_mul, Rat.intCast_mul, ← hb, ← r5]
  grind
/-- The slope of a sum that is a point is small. -/
theorem sum_slope {A B : Int} {p q : P3} (hp : PV A B p) (hq : PV A B q) (p0 : p.2.2 ≠ 0) (q0 : q.2.2 ≠ 0) (hno : p ≠ opp q) {n m d : Int} (hn : n * d = sN A p q) (hm : m * d = sD p q) (hg : Int.gcd n m = 1)
    {r : P3} (h : sumO A p q = some r) : m.natAbs ≤ 8000 ∧ n.natAbs ≤ 200 * m.natAbs := by
  obtain ⟨hm0, l, a1, b1, a2, a3, hl, f1, g1, f2, hll, hon, hs, hb⟩ := sum_core hp hq p0 q0 hno hn hm
  obtain ⟨X, Y, e⟩ := r
  rw [hs] at h
  obtain ⟨r1, r2, r3, r4, r5, r6, r7, r8⟩ := rep_some hon h
  obtain ⟨p1, p2, p3, p4, -⟩ := hp.fin p0
  obtain ⟨q1, q2, q3, q4, -⟩ := hq.fin q0
  obtain ⟨d1, d2⟩ := low_abs hm0 hg hl
  have h1 := slope_small hll (x_small (Int.mul_pos (by omega) (by omega)) p2 f1) (x_small (Int.mul_pos (by omega) (by omega)) q2 f2) (x_small (Int.mul_pos (by omega) (by omega)) r4 r5)
  have hpos : 0 < p.2.2 * q.2.2 * e := Int.mul_pos (Int.mul_pos (by omega) (by omega)) (by omega)
  have h2 : (l.den : Int) ∣ p.2.2 * q.2.2 * e := by
    refine den_le hpos (N := p.1 * (q.2.2 * q.2.2) * (e * e) + q.1 * (p.2.2 * p.2.2) * (e * e) + X * (p.2.2 * p.2.2) * (q.2.2 * q.2.2)) ?_
    have : (l * ((p.2.2 * q.2.2 * e : Int) : Rat)) * (l * ((p.2.2 * q.2.2 * e : Int) : Rat)) = (l * l) * (((p.2.2 * q.2.2 * e : Int) : Rat) * ((p.2.2 * q.2.2 * e : Int) : Rat)) := by grind
    rw [this, hll]
    simp only [Rat.intCast_mul, Rat.intCast_add] at *
    rw [← f1, ← f2, ← r5]
    generalize (p.2.2 : Rat) = e1 at *; generalize (q.2.2 : Rat) = e2 at *; generalize (e : Rat) = f at *
    grind
  have h3 := Int.le_of_dvd hpos h2
  have h4 : p.2.2 * q.2.2 * e ≤ 8000 := by
    have t1 : p.2.2 * q.2.2 ≤ 20 * 20 := Int.mul_le_mul (by omega) (by omega) (by omega) (by omega)
    have t2 : p.2.2 * q.2.2 * e ≤ (20 * 20) * 20 := Int.mul_le_mul t1 (by omega) (by omega) (by omega)
    omega
  omega
end Go.Proofs.YtjgdajeoeagggaaGreat.EC
