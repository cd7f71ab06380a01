import Derived.Test.YtelkmldmebdcgaaFlt
import Derived.Test.YtelkmldmebdcgaaNumA
import Derived.Laws.FloatArith
import Derived.Laws.Externs
set_option linter.unusedSimpArgs false
set_option linter.unusedVariables false
namespace Go.Proofs.Ytelkmldmebdcgaa
open Go.RowKit
/-! ### integer square roots -/

def isq : Nat → Nat
  | 0 => 0
  | n + 1 => if (isq n + 1) * (isq n + 1) ≤ n + 1 then isq n + 1 else isq n
theorem isq_spec (n : Nat) : isq n * isq n ≤ n ∧ n < (isq n + 1) * (isq n + 1) := by
  induction n with
  | zero => simp [isq]
  | succ n ih =>
    unfold isq
    split
    · next h =>
      refine ⟨h, ?_⟩
      have e : (isq n + 1 + 1) * (isq n + 1 + 1) = (isq n + 1) * (isq n + 1) + 2 * (isq n + 1) + 1 := by grind
      omega
    · next h => exact ⟨by omega, by omega⟩
/-- The greatest integer whose square is not greater. -/
def rt (n : Int) : Int := isq n.toNat
theorem rt_nonneg (n : Int) : 0 ≤ rt n := by unfold rt; omega
theorem rt_le {n : Int} (h : 0 ≤ n) : rt n * rt n ≤ n := by
  have := (isq_spec n.toNat).1
  unfold rt
  have e : ((isq n.toNat * isq n.toNat : Nat) : Int) ≤ (n.toNat : Int) := by exact_mod_cast this
  push_cast at e
  omega
theorem rt_lt {n : Int} (h : 0 ≤ n) : n < (rt n + 1) * (rt n + 1) := by
  have := (isq_spec n.toNat).2
  unfold rt
  have e : (n.toNat : Int) < (((isq n.toNat + 1) * (isq n.toNat + 1) : Nat) : Int) := by exact_mod_cast this
  push_cast at e
  omega
theorem sq_lt {a b : Int} (h0 : 0 ≤ b) (h : a * a < b * b) : a < b := by
  rcases Int.lt_or_le a b with g | g
  · exact g
  · have := Int.mul_le_mul g g h0 (by omega)
    omega
theorem sq_mono {a b : Int} (h0 : 0 ≤ a) (h : a ≤ b) : a * a ≤ b * b := Int.mul_le_mul h h h0 (by omega)
theorem rt_eq {n r : Int} (h0 : 0 ≤ r) (h1 : r * r ≤ n) (h2 : n < (r + 1) * (r + 1)) : rt n = r := by
  have hn : 0 ≤ n := by have := Int.mul_nonneg h0 h0; omega
  have a := rt_le hn
  have b := rt_lt hn
  have c := rt_nonneg n
  have d : rt n < r + 1 := sq_lt (by omega) (by omega)
  have e : r < rt n + 1 := sq_lt (by omega) (by omega)
  omega
theorem rt_sq {n r : Int} (h0 : 0 ≤ r) (h1 : r * r = n) : rt n = r := rt_eq h0 (by omega) (by rw [show (r + 1) * (r + 1) = r * r + 2 * r + 1 by grind]; omega)
/-- Is it a square? -/
def sqB (n : Int) : Bool := decide (0 ≤ n) && (rt n * rt n == n)
theorem sqB_iff {n : Int} : sqB n = true ↔ ∃ r : Int, 0 ≤ r ∧ r * r = n := by
  unfold sqB
  constructor
  · intro h
    simp only [Bool.and_eq_true, decide_eq_true_eq, beq_iff_eq] at h
    exact ⟨rt n, rt_nonneg n, h.2⟩
  · rintro ⟨r, h0, h1⟩
    have := rt_sq h0 h1
    have := Int.mul_nonneg h0 h0
    simp only [Bool.and_eq_true, decide_eq_true_eq, beq_iff_eq]
    constructor
    · omega
    · rw [rt_sq h0 h1]; exact h1
def xrR (n : Int) : Value := if sqB n then .tuple #[.int .i64 (rt n), .bool true] else .tuple #[.int .i64 0, .bool false]
theorem sq_step (r : Int) : (r + 1) * (r + 1) = r * r + 2 * r + 1 := by grind
theorem sq_stepm (r : Int) : (r - 1) * (r - 1) = r * r - 2 * r + 1 := by grind
theorem sq_b {r : Int} (h0 : 0 ≤ r) (h : r ≤ 2147483648) : 0 ≤ r * r ∧ r * r ≤ 4611686018427387904 := by
  refine ⟨Int.mul_nonneg h0 h0, ?_⟩
  exact Int.mul_le_mul h h h0 (by omega)

theorem extSqrt (x y : Nat) (h : FloatKind.f64.format.sqrt x = some y) (w : World) : (callFunc 121 #[.float .f64 x]).run Try.prog w = .ok (.value (.float .f64 y)) w := by
  rw [run_callFunc_extern Try.func121 (by kernel_rfl) (by kernel_rfl) (by kernel_rfl) (e := Extern.MathSqrt.sqrt) (by kernel_rfl)]
  have e : Extern.MathSqrt.sqrt #[.float .f64 x] = pure (.float .f64 y) := by
    show (match FloatKind.f64.format.sqrt x with | some r => (pure (Value.float .f64 r) : Sem Value) | none => do pure (Value.float .f64 (← choose (.nanBits .f64 x x)))) = _
    rw [h]
  rw [e]; rfl
theorem Sqrt_any (x y : Nat) (h : FloatKind.f64.format.sqrt x = some y) (w : World) : Calls Try.prog 96 #[.float .f64 x] w (Same (.float .f64 y) w) := by
  have hs := extSqrt x y h
  clear h
  go_enter Try.func96, Try.ntmps96
  go_wp2
  go_ret
  exact same rfl
theorem sqrt_bits (n : Int) (h0 : 0 ≤ n) (h : n < 4503599627370496) : ∃ (y : Nat) (r : Int), FloatKind.f64.format.sqrt (floatOfInt .f64 n) = some y ∧ floatToIntVal .f64 y .i64 = some r ∧ 0 ≤ r ∧ r ≤ 1073741824 := by
  obtain ⟨y, r, h1, h2, h3⟩ := sqrt_ok n.toNat (by omega)
  rw [show ((n.toNat : Nat) : Int) = n by omega] at h1
  refine ⟨y, r, h1, ?_, by omega, by omega⟩
  unfold floatToIntVal
  rw [h2]
  have a1 : IntKind.i64.min = -9223372036854775808 := by decide
  have a2 : IntKind.i64.max = 9223372036854775807 := by decide
  simp only [a1, a2]
  rw [if_pos (by omega)]

theorem exactRoot_any (n : Int) (hn : n < 4503599627370496) (w : World) : Calls Try.prog 58 #[.int .i64 n] w (Same (xrR n) w) := by
  by_cases h0 : n < 0
  · have e : xrR n = .tuple #[.int .i64 0, .bool false] := by unfold xrR sqB; rw [if_neg (by simp; omega)]
    rw [e]
    go_enter Try.func58, Try.ntmps58
    go_wp2
    go_ret2
    exact same rfl
  · obtain ⟨y, r0, h1, h2, h3, h4⟩ := sqrt_bits n (by omega) hn
    have hc : ∀ w, (convert 100 3 (.float .f64 y)).run Try.prog w = .ok (.int .i64 r0) w := fun w => run_convert_float_int w 100 3 .f64 .i64 y r0 (by rw [Try.underlying100]; rfl) Try.underlying3 h2
    have H1 := Lib.hid h1
    clear h1 h2
    go_enter Try.func58, Try.ntmps58
    go_wp2_with (first | (go_at_call 96; refine (Sqrt_any _ _ H1.out _).mono ?_; rintro e w1 ⟨rfl, rfl⟩) | simp only [hc])
    clear hc
    go_loop [4] (fun v4 => ∃ r : Int, v4 = .int .i64 r ∧ 0 ≤ r ∧ r ≤ 1073741824) (fun v4 => (intOf v4).toNat)
    case atStart => exact ⟨r0, rfl, h3, h4⟩
    case round =>
      clear h3 h4
      obtain ⟨r, rfl, h3, h4⟩ := hrel
      obtain ⟨b1, b2⟩ := sq_b h3 (by omega)
      by_cases hlt : n < r * r
      · have hpos : 1 ≤ r := by
          rcases Int.lt_or_le r 1 with g | g
          · obtain rfl : r = 0 := by omega
            simp at hlt; omega
          · exact g
        go_wp2
        go_round
        case rel => exact ⟨r - 1, rfl, by omega, by omega⟩
        case measure => simp [intOf]; omega
      · have hle : r * r ≤ n := by omega
        have hs : r ≤ 67108864 := by have := sq_lt (a := r) (b := 67108865) (by omega) (by omega); omega
        go_wp2
        clear hlt b1 b2 h4
        go_loop [4] (fun v4 => ∃ r : Int, v4 = .int .i64 r ∧ 0 ≤ r ∧ r ≤ 67108864 ∧ r * r ≤ n) (fun v4 => (67108864 - intOf v4).toNat)
        case atStart => exact ⟨r, rfl, h3, hs, hle⟩
        case round =>
          clear h3 hs hle
          obtain ⟨q, rfl, h3, hs, hle⟩ := hrel
          obtain ⟨b1, b2⟩ := sq_b (r := q + 1) (by omega) (by omega)
          obtain ⟨b3, b4⟩ := sq_b (r := q) (by omega) (by omega)
          by_cases hlt : (q + 1) * (q + 1) ≤ n
          · have hs2 : q + 1 ≤ 67108864 := by have := sq_lt (a := q + 1) (b := 67108865) (by omega) (by omega); omega
            go_wp2
            go_round
            case rel => exact ⟨q + 1, rfl, by omega, by omega, hlt⟩
            case measure => simp [intOf]; omega
          · have e : rt n = q := rt_eq h3 hle (by omega)
            by_cases hq : q * q = n
            · have e2 : xrR n = .tuple #[.int .i64 q, .bool true] := by unfold xrR; rw [if_pos (sqB_iff.2 ⟨q, h3, hq⟩), e]
              have E2 := Lib.hid e2
              have q1 : (q * q != n) = false := by simp [hq]
              clear e e2 hq
              go_wp2
              go_ret2
              exact same E2.out.symm
            · have e2 : xrR n = .tuple #[.int .i64 0, .bool false] := by
                unfold xrR
                rw [if_neg]
                intro hh
                unfold sqB at hh
                rw [e] at hh
                simp at hh
                exact hq hh.2
              have E2 := Lib.hid e2
              have q1 : (q * q != n) = true := by simp [hq]
              clear e e2 hq
              go_wp2
              go_ret2
              exact same E2.out.symm

theorem seRoot_any (n : Int) (hn : n ≤ 16000000000000) (w : World) : Calls Try.prog 61 #[.int .i64 n] w (Same (.int .i64 (if sqB n then rt n else -1)) w) := by
  by_cases h0 : n < 0
  · have e : sqB n = false := by unfold sqB; simp; omega
    rw [if_neg (by simp [e])]
    clear e
    go_enter Try.func61, Try.ntmps61
    go_wp2
    go_ret
    exact same rfl
  · generalize hR : (if sqB n then rt n else -1) = R
    have HR := Lib.hid hR; clear hR
    go_enter Try.func61, Try.ntmps61
    go_wp2
    go_loop [3, 4] (fun v3 v4 => ∃ a b : Int, v3 = .int .i64 a ∧ v4 = .int .i64 b ∧ 0 ≤ a ∧ a ≤ b ∧ b ≤ 4000000 ∧ a * a ≤ n ∧ n < (b + 1) * (b + 1)) (fun v3 v4 => (intOf v4 - intOf v3).toNat)
    case atStart => exact ⟨0, 4000000, rfl, rfl, by omega, by omega, by omega, by omega, by omega⟩
    case round =>
      obtain ⟨a, b, rfl, rfl, h1, h2, h3, h4, h5⟩ := hrel
      by_cases hlt : a < b
      · have hm1 : a < (a + b + 1) / 2 := by omega
        have hm2 : (a + b + 1) / 2 ≤ b := by omega
        generalize hm : (a + b + 1) / 2 = m at *
        have HM := Lib.hid hm
        obtain ⟨b1, b2⟩ := sq_b (r := m) (by omega) (by omega)
        by_cases c : m * m ≤ n
        · go_wp2
          go_round
          case rel => exact ⟨m, b, by rw [HM.out], rfl, by omega, by omega, by omega, c, h5⟩
          case measure => simp [intOf]; omega
        · have c2 : n < (m - 1 + 1) * (m - 1 + 1) := by rw [show m - 1 + 1 = m by omega]; omega
          go_wp2
          go_round
          case rel => exact ⟨a, m - 1, rfl, by first | rfl | rw [HM.out], by omega, by omega, by omega, h4, c2⟩
          case measure => simp [intOf]; omega
      · obtain rfl : a = b := by omega
        have e : rt n = a := rt_eq h1 h4 h5
        obtain ⟨b1, b2⟩ := sq_b (r := a) (by omega) (by omega)
        by_cases hq : a * a = n
        · have e2 : R = a := by rw [← HR.out, if_pos (sqB_iff.2 ⟨a, h1, hq⟩), e]
          have E2 := Lib.hid e2
          have q1 : (a * a != n) = false := by simp [hq]
          clear e e2 hq hlt h5
          go_wp2
          go_ret
          exact same (vint E2.out.symm)
        · have e2 : R = -1 := by
            rw [← HR.out, if_neg]
            intro hh
            unfold sqB at hh
            rw [e] at hh
            simp at hh
            exact hq hh.2
          have E2 := Lib.hid e2
          have q1 : (a * a != n) = true := by simp [hq]
          clear e e2 hq hlt h5
          go_wp2
          go_ret
          exact same (vint E2.out.symm)

def exR (n : Int) : Value := if inB n 0 10000000000000 then xrR n else .tuple #[.int .i64 0, .bool false]
theorem ExactRoot_any (n : Int) (w : World) : Calls Try.prog 12 #[.int .i64 n] w (Same (exR n) w) := by
  cases g : inB n 0 10000000000000
  · have e : exR n = .tuple #[.int .i64 0, .bool false] := by simp [exR, g]
    have E := Lib.hid e; clear e
    go_enter Try.func12, Try.ntmps12
    go_wp2_with (first | (go_at_call 51; refine (inside_any _ _ _ _).mono ?_; rintro e w1 ⟨rfl, rfl⟩))
    go_ret2; exact same E.out.symm
  · have hb := inB_iff.1 g
    have e : exR n = xrR n := by simp [exR, g]
    have HX := fun w => exactRoot_any n (by omega) w
    rw [← e] at HX
    have hf : ∃ r b, exR n = .tuple #[.int .i64 r, .bool b] := by rw [e]; unfold xrR; split <;> exact ⟨_, _, rfl⟩
    obtain ⟨r, b, hf⟩ := hf
    rw [hf] at HX ⊢
    have HX := Lib.hid HX; clear hf e
    go_enter Try.func12, Try.ntmps12
    go_wp2_with (first | (go_at_call 51; refine (inside_any _ _ _ _).mono ?_; rintro e w1 ⟨rfl, rfl⟩) | (go_at_call 58; refine (HX.out _).mono ?_; rintro e w1 ⟨rfl, rfl⟩))
    go_ret2; exact same rfl
theorem sExactRoot_any (n : Int) (w : World) : Calls Try.prog 14 #[.int .i64 n] w (Same (exR n) w) := by
  cases g : inB n 0 10000000000000
  · have e : exR n = .tuple #[.int .i64 0, .bool false] := by simp [exR, g]
    have E := Lib.hid e; clear e
    go_enter Try.func14, Try.ntmps14
    go_wp2_with (first | (go_at_call 54; refine (l1In_any _ _ _ _).mono ?_; rintro e w1 ⟨rfl, rfl⟩))
    go_ret2; exact same E.out.symm
  · have hb := inB_iff.1 g
    have HX := fun w => seRoot_any n (by omega) w
    cases q : sqB n
    · have e : exR n = .tuple #[.int .i64 0, .bool false] := by simp [exR, xrR, g, q]
      rw [q] at HX; simp at HX
      have E := Lib.hid e; have HX := Lib.hid HX; clear e
      go_enter Try.func14, Try.ntmps14
      go_wp2_with (first | (go_at_call 54; refine (l1In_any _ _ _ _).mono ?_; rintro e w1 ⟨rfl, rfl⟩) | (go_at_call 61; refine (HX.out _).mono ?_; rintro e w1 ⟨rfl, rfl⟩))
      go_ret2; exact same E.out.symm
    · have e : exR n = .tuple #[.int .i64 (rt n), .bool true] := by simp [exR, xrR, g, q]
      rw [q] at HX; simp at HX
      have hr := rt_nonneg n
      generalize rt n = r at *
      have E := Lib.hid e; have HX := Lib.hid HX; clear e
      go_enter Try.func14, Try.ntmps14
      go_wp2_with (first | (go_at_call 54; refine (l1In_any _ _ _ _).mono ?_; rintro e w1 ⟨rfl, rfl⟩) | (go_at_call 61; refine (HX.out _).mono ?_; rintro e w1 ⟨rfl, rfl⟩))
      go_ret2; exact same E.out.symm

end Go.Proofs.Ytelkmldmebdcgaa
