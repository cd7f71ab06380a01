import Derived.Test.YteenhcikogmjjaaFlt
import Derived.Test.YteenhcikogmjjaaNumA
import Derived.Laws.FloatArith
import Derived.Laws.Externs
set_option linter.unusedSimpArgs false
set_option linter.unusedVariables false
namespace Go.Proofs.Yteenhcikogmjjaa
open Go.RowKit
/-! ### integer square roots -/

def isq : Nat → Nat
  | 0 => 0
  | n + 1 => if (isq n + 1) * (isq n + 1) ≤ n + 1 then isq n + 1 else isq n
theorem isq_spec (n : Nat) : isq n * isq n ≤ n ∧ n < (isq n + 1) * (isq n + 1) := by
  induction n with
  | zero => simp [isq]
  | succ n ih =>
    unfold isq
    split
    · next h =>
      refine ⟨h, ?_⟩
      have e : (isq n + 1 + 1) * (isq n + 1 + 1) = (isq n + 1) * (isq n + 1) + 2 * (isq n + 1) + 1 := by grind
      omega
    · next h => exact ⟨by omega, by omega⟩
/-- The greatest integer whose square is not greater. -/
def rt (n : Int) : Int := isq n.toNat
theorem rt_nonneg (n : Int) : 0 ≤ rt n := by unfold rt; omega
theorem rt_le {n : Int} (h : 0 ≤ n) : rt n * rt n ≤ n := by
  have := (isq_spec n.toNat).1
  unfold rt
  have e : ((isq n.toNat * isq n.toNat : Nat) : Int) ≤ (n.toNat : Int) := by exact_mod_cast this
  push_cast at e
  omega
theorem rt_lt {n : Int} (h : 0 ≤ n) : n < (rt n + 1) * (rt n + 1) := by
  have := (isq_spec n.toNat).2
  unfold rt
  have e : (n.toNat : Int) < (((isq n.toNat + 1) * (isq n.toNat + 1) : Nat) : Int) := by exact_mod_cast this
  push_cast at e
  omega
theorem sq_lt {a b : Int} (h0 : 0 ≤ b) (h : a * a < b * b) : a < b := by
  rcases Int.lt_or_le a b with g | g
  · exact g
  · have := Int.mul_le_mul g g h0 (by omega)
    omega
theorem sq_mono {a b : Int} (h0 : 0 ≤ a) (h : a ≤ b) : a * a ≤ b * b := Int.mul_le_mul h h h0 (by omega)
theorem rt_eq {n r : Int} (h0 : 0 ≤ r) (h1 : r * r ≤ n) (h2 : n < (r + 1) * (r + 1)) : rt n = r := by
  have hn : 0 ≤ n := by have := Int.mul_nonneg h0 h0; omega
  have a := rt_le hn
  have b := rt_lt hn
  have c := rt_nonneg n
  have d : rt n < r + 1 := sq_lt (by omega) (by omega)
  have e : r < rt n + 1 := sq_lt (by omega) (by omega)
  omega
theorem rt_sq {n r : Int} (h0 : 0 ≤ r) (h1 : r * r = n) : rt n = r := rt_eq h0 (by omega) (by rw [show (r + 1) * (r + 1) = r * r + 2 * r + 1 by grind]; omega)
/-- Is it a square? -/
def sqB (n : Int) : Bool := decide (0 ≤ n) && (rt n * rt n == n)
theorem sqB_iff {n : Int} : sqB n = true ↔ ∃ r : Int, 0 ≤ r ∧ r * r = n := by
  unfold sqB
  constructor
  · intro h
    simp only [Bool.and_eq_true, decide_eq_true_eq, beq_iff_eq] at h
    exact ⟨rt n, rt_nonneg n, h.2⟩
  · rintro ⟨r, h0, h1⟩
    have := rt_sq h0 h1
    have := Int.mul_nonneg h0 h0
    simp only [Bool.and_eq_true, decide_eq_true_eq, beq_iff_eq]
    constructor
    · omega
    · rw [rt_sq h0 h1]; exact h1
def xrR (n : Int) : Value := if sqB n then .tuple #[.int .i64 (rt n), .bool true] else .tuple #[.int .i64 0, .bool false]
theorem sq_step (r : Int) : (r + 1) * (r + 1) = r * r + 2 * r + 1 := by grind
theorem sq_stepm (r : Int) : (r - 1) * (r - 1) = r * r - 2 * r + 1 := by grind
theorem sq_b {r : Int} (h0 : 0 ≤ r) (h : r ≤ 2147483648) : 0 ≤ r * r ∧ r * r ≤ 4611686018427387904 := by
  refine ⟨Int.mul_nonneg h0 h0, ?_⟩
  exact Int.mul_le_mul h h h0 (by omega)

theorem extSqrt (x y : Nat) (h : FloatKind.f64.format.sqrt x = some y) (w : World) : (callFunc 72 #[.float .f64 x]).run Try.prog w = .ok (.value (.float .f64 y)) w := by
  rw [run_callFunc_extern Try.func72 (by kernel_rfl) (by kernel_rfl) (by kernel_rfl) (e := Extern.MathSqrt.sqrt) (by kernel_rfl)]
  have e : Extern.MathSqrt.sqrt #[.float .f64 x] = pure (.float .f64 y) := by
    show (match FloatKind.f64.format.sqrt x with | some r => (pure (Value.float .f64 r) : Sem Value) | none => do pure (Value.float .f64 (← choose (.nanBits .f64 x x)))) = _
    rw [h]
  rw [e]; rfl
theorem Sqrt_any (x y : Nat) (h : FloatKind.f64.format.sqrt x = some y) (w : World) : Calls Try.prog 68 #[.float .f64 x] w (Same (.float .f64 y) w) := by
  have hs := extSqrt x y h
  clear h
  go_enter Try.func68, Try.ntmps68
  go_wp2
  go_ret
  exact same rfl
theorem sqrt_bits (n : Int) (h0 : 0 ≤ n) (h : n < 4503599627370496) : ∃ (y : Nat) (r : Int), FloatKind.f64.format.sqrt (floatOfInt .f64 n) = some y ∧ floatToIntVal .f64 y .i64 = some r ∧ 0 ≤ r ∧ r ≤ 1073741824 := by
  obtain ⟨y, r, h1, h2, h3⟩ := sqrt_ok n.toNat (by omega)
  rw [show ((n.toNat : Nat) : Int) = n by omega] at h1
  refine ⟨y, r, h1, ?_, by omega, by omega⟩
  unfold floatToIntVal
  rw [h2]
  have a1 : IntKind.i64.min = -9223372036854775808 := by decide
  have a2 : IntKind.i64.max = 9223372036854775807 := by decide
  simp only [a1, a2]
  rw [if_pos (by omega)]

theorem exactRoot_any (n : Int) (hn : n < 4503599627370496) (w : World) : Calls Try.prog 50 #[.int .i64 n] w (Same (xrR n) w) := by
  by_cases h0 : n < 0
  · have e : xrR n = .tuple #[.int .i64 0, .bool false] := by unfold xrR sqB; rw [if_neg (by simp; omega)]
    rw [e]
    go_enter Try.func50, Try.ntmps50
    go_wp2
    go_ret2
    exact same rfl
  · obtain ⟨y, r0, h1, h2, h3, h4⟩ := sqrt_bits n (by omega) hn
    have hc : ∀ w, (convert 79 3 (.float .f64 y)).run Try.prog w = .ok (.int .i64 r0) w := fun w => run_convert_float_int w 79 3 .f64 .i64 y r0 (by rw [Try.underlying79]; rfl) Try.underlying3 h2
    have H1 := Lib.hid h1
    clear h1 h2
    go_enter Try.func50, Try.ntmps50
    go_wp2_with (first | (go_at_call 68; refine (Sqrt_any _ _ H1.out _).mono ?_; rintro e w1 ⟨rfl, rfl⟩) | simp only [hc])
    clear hc
    go_loop [4] (fun v4 => ∃ r : Int, v4 = .int .i64 r ∧ 0 ≤ r ∧ r ≤ 1073741824) (fun v4 => (intOf v4).toNat)
    case atStart => exact ⟨r0, rfl, h3, h4⟩
    case round =>
      clear h3 h4
      obtain ⟨r, rfl, h3, h4⟩ := hrel
      obtain ⟨b1, b2⟩ := sq_b h3 (by omega)
      by_cases hlt : n < r * r
      · have hpos : 1 ≤ r := by
          rcases Int.lt_or_le r 1 with g | g
          · obtain rfl : r = 0 := by omega
            simp at hlt; omega
          · exact g
        go_wp2
        go_round
        case rel => exact ⟨r - 1, rfl, by omega, by omega⟩
        case measure => simp [intOf]; omega
      · have hle : r * r ≤ n := by omega
        have hs : r ≤ 67108864 := by have := sq_lt (a := r) (b := 67108865) (by omega) (by omega); omega
        go_wp2
        clear hlt b1 b2 h4
        go_loop [4] (fun v4 => ∃ r : Int, v4 = .int .i64 r ∧ 0 ≤ r ∧ r ≤ 67108864 ∧ r * r ≤ n) (fun v4 => (67108864 - intOf v4).toNat)
        case atStart => exact ⟨r, rfl, h3, hs, hle⟩
        case round =>
          clear h3 hs hle
          obtain ⟨q, rfl, h3, hs, hle⟩ := hrel
          obtain ⟨b1, b2⟩ := sq_b (r := q + 1) (by omega) (by omega)
          obtain ⟨b3, b4⟩ := sq_b (r := q) (by omega) (by omega)
          by_cases hlt : (q + 1) * (q + 1) ≤ n
          · have hs2 : q + 1 ≤ 67108864 := by have := sq_lt (a := q + 1) (b := 67108865) (by omega) (by omega); omega
            go_wp2
            go_round
            case rel => exact ⟨q + 1, rfl, by omega, by omega, hlt⟩
            case measure => simp [intOf]; omega
          · have e : rt n = q := rt_eq h3 hle (by omega)
            by_cases hq : q * q = n
            · have e2 : xrR n = .tuple #[.int .i64 q, .bool true] := by unfold xrR; rw [if_pos (sqB_iff.2 ⟨q, h3, hq⟩), e]
              have E2 := Lib.hid e2
              have q1 : (q * q != n) = false := by simp [hq]
              clear e e2 hq
              go_wp2
              go_ret2
              exact same E2.out.symm
            · have e2 : xrR n = .tuple #[.int .i64 0, .bool false] := by
                unfold xrR
                rw [if_neg]
                intro hh
                unfold sqB at hh
                rw [e] at hh
                simp at hh
                exact hq hh.2
              have E2 := Lib.hid e2
              have q1 : (q * q != n) = true := by simp [hq]
              clear e e2 hq
              go_wp2
              go_ret2
              exact same E2.out.symm

end Go.Proofs.Yteenhcikogmjjaa
