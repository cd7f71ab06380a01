import GoSem.Core.Float
import Derived.Test.YtjgdajeoeagggaaGreatYK1
import Derived.Laws.FloatArith
import Derived.Laws.Externs
set_option linter.unusedSimpArgs false
set_option linter.unusedVariables false
namespace Go.Proofs.YtjgdajeoeagggaaGreat
open Go.RowKit
open Ieee
theorem cut_even_0 (neg : Bool) (n : Nat) : Toward.even.cut neg n 0 = n := by
  simp [Toward.cut, Nat.mod_one]
theorem lg {n k : Nat} (h : n ≠ 0) (h1 : 2 ^ k ≤ n) (h2 : n < 2 ^ (k + 1)) : n.log2 = k := by
  have := (Nat.log2_lt h (k := k + 1)).2 h2
  have := (Nat.le_log2 h (k := k)).2 h1
  omega
theorem word_bd (neg : Bool) (W : Nat) (h : W < 2047 * 2 ^ 52) : ∃ mag : Nat, ∃ place : Int, double.read W = .number false mag place ∧ mag < 2 ^ 53 ∧ ((W < 2 ^ 52 ∧ mag = W ∧ place = -1074) ∨ (2 ^ 52 ≤ W ∧ mag = 2 ^ 52 + W % 2 ^ 52 ∧ place = -1074 + ((W / 2 ^ 52 - 1 : Nat) : Int))) := by
  have e1 : double.signWeight = 9223372036854775808 := by decide
  have e2 : double.binade = 4503599627370496 := by decide
  have e3 : double.infRung = 9218868437227405312 := by decide
  have e4 : double.leastPlace = -1074 := by decide
  have g1 : W / 9223372036854775808 = 0 := by omega
  have g2 : W % 9223372036854775808 = W := by omega
  unfold Format.read
  simp only [e1, e2, e3, e4, g1, g2]
  by_cases c : W < 4503599627370496
  · rw [if_pos c]
    exact ⟨W, -1074, rfl, by omega, .inl ⟨by omega, rfl, rfl⟩⟩
  · rw [if_neg c, if_pos (by omega)]
    exact ⟨_, _, rfl, by omega, .inr ⟨by omega, by omega, rfl⟩⟩
theorem near_n (n : Nat) (h0 : n ≠ 0) (h : n < 2 ^ 52) : double.nearest false n 0 = (n.log2 + 1022) * 2 ^ 52 + n * 2 ^ (52 - n.log2) := by
  have e2 : double.binade = 4503599627370496 := by decide
  have e3 : double.infRung = 9218868437227405312 := by decide
  have e4 : double.leastPlace = -1074 := by decide
  have e5 : double.fractionBits = 52 := by decide
  have l1 : n.log2 < 52 := (Nat.log2_lt h0).2 h
  unfold Format.nearest
  rw [if_neg h0]
  simp only [e2, e3, e4, e5, Format.word]
  have m1 : max ((0 : Int) + (n.log2 : Int) - ((52 : Nat) : Int)) (-1074) = (n.log2 : Int) - 52 := by omega
  rw [m1]
  have a1 : (0 - ((n.log2 : Int) - 52)).toNat = 52 - n.log2 := by omega
  have a2 : ((n.log2 : Int) - 52 - 0).toNat = 0 := by omega
  have a3 : ((n.log2 : Int) - 52 - -1074).toNat = n.log2 + 1022 := by omega
  rw [a1, a2, a3, cut_even_0, Nat.shiftLeft_eq]
  have b1 : n < 2 ^ (n.log2 + 1) := Nat.lt_log2_self
  have b2 : n * 2 ^ (52 - n.log2) < 2 ^ (n.log2 + 1) * 2 ^ (52 - n.log2) := Nat.mul_lt_mul_of_pos_right b1 (Nat.two_pow_pos _)
  rw [← Nat.pow_add, show n.log2 + 1 + (52 - n.log2) = 53 by omega] at b2
  rw [if_neg (by decide)]
  generalize n * 2 ^ (52 - n.log2) = k at *
  rw [Nat.min_eq_left (by omega)]
theorem near_read (n : Nat) (h0 : n ≠ 0) (h : n < 2 ^ 52) : ∃ m : Nat, double.read (double.nearest false n 0) = .number false m ((n.log2 : Int) - 52) ∧ 2 ^ 52 ≤ m ∧ m < 2 ^ 53 := by
  have l1 : n.log2 < 52 := (Nat.log2_lt h0).2 h
  have b1 : n < 2 ^ (n.log2 + 1) := Nat.lt_log2_self
  have b2 : n * 2 ^ (52 - n.log2) < 2 ^ (n.log2 + 1) * 2 ^ (52 - n.log2) := Nat.mul_lt_mul_of_pos_right b1 (Nat.two_pow_pos _)
  rw [← Nat.pow_add, show n.log2 + 1 + (52 - n.log2) = 53 by omega] at b2
  have b3 : 2 ^ n.log2 ≤ n := Nat.log2_self_le h0
  have b4 : 2 ^ n.log2 * 2 ^ (52 - n.log2) ≤ n * 2 ^ (52 - n.log2) := Nat.mul_le_mul_right _ b3
  rw [← Nat.pow_add, show n.log2 + (52 - n.log2) = 52 by omega] at b4
  rw [near_n n h0 h]
  generalize n * 2 ^ (52 - n.log2) = k at *
  generalize n.log2 = l at *
  obtain ⟨mag, place, hr, hm, hc⟩ := word_bd false ((l + 1022) * 2 ^ 52 + k) (by omega)
  refine ⟨mag, ?_, ?_⟩
  · rw [hr]
    rcases hc with ⟨c1, _⟩ | ⟨_, c2, c3⟩
    · omega
    · congr 1
      omega
  · rcases hc with ⟨c1, _⟩ | ⟨_, c2, c3⟩
    · omega
    · omega
theorem rootFrom_le (n : Nat) : ∀ (todo r : Nat), r * r ≤ n → Datum.rootFrom n todo r * Datum.rootFrom n todo r ≤ n := by
  intro todo
  induction todo with
  | zero => intro r h; exact h
  | succ t ih =>
    intro r h
    unfold Datum.rootFrom
    dsimp only
    split
    · next c => exact ih _ c
    · exact ih _ h
theorem root_bd (m : Nat) (i : Int) (h1 : 2 ^ 52 ≤ m) (h2 : m < 2 ^ 53) (h3 : -52 ≤ i) (h4 : i ≤ 0) : ∃ M : Nat, ∃ p : Int, (Datum.number false m i).root 54 = some (.number false M p) ∧ M < 2 ^ 56 ∧ -56 ≤ p ∧ p ≤ -29 := by
  have l1 : m.log2 = 52 := lg (by omega) h1 h2
  have ht : (Datum.number false m i).root 54 = if m = 0 then some (Datum.number false m i) else if false = true then none else some (Datum.number false (2 * Datum.rootFrom (m <<< (2 * 54 - m.log2 + ((i - ((2 * 54 - m.log2 : Nat) : Int)) % 2).toNat)) ((m <<< (2 * 54 - m.log2 + ((i - ((2 * 54 - m.log2 : Nat) : Int)) % 2).toNat)).log2 / 2 + 1) 0 + (Datum.rootFrom (m <<< (2 * 54 - m.log2 + ((i - ((2 * 54 - m.log2 : Nat) : Int)) % 2).toNat)) ((m <<< (2 * 54 - m.log2 + ((i - ((2 * 54 - m.log2 : Nat) : Int)) % 2).toNat)).log2 / 2 + 1) 0 * Datum.rootFrom (m <<< (2 * 54 - m.log2 + ((i - ((2 * 54 - m.log2 : Nat) : Int)) % 2).toNat)) ((m <<< (2 * 54 - m.log2 + ((i - ((2 * 54 - m.log2 : Nat) : Int)) % 2).toNat)).log2 / 2 + 1) 0 != m <<< (2 * 54 - m.log2 + ((i - ((2 * 54 - m.log2 : Nat) : Int)) % 2).toNat)).toNat) ((i - ((2 * 54 - m.log2 + ((i - ((2 * 54 - m.log2 : Nat) : Int)) % 2).toNat : Nat) : Int)) / 2 - 1)) := rfl
  rw [ht, if_neg (by omega), if_neg (by decide)]
  clear ht
  have e0 : 2 * 54 - m.log2 = 56 := by omega
  simp only [e0]
  generalize hk : 56 + ((i - ((56 : Nat) : Int)) % 2).toNat = k
  have hk1 : 56 ≤ k ∧ k ≤ 57 := by omega
  rw [Nat.shiftLeft_eq]
  have q1 : m * 2 ^ k < 2 ^ 53 * 2 ^ 57 := by
    have : 2 ^ k ≤ 2 ^ 57 := Nat.pow_le_pow_right (by decide) hk1.2
    calc m * 2 ^ k ≤ m * 2 ^ 57 := Nat.mul_le_mul_left _ this
      _ < 2 ^ 53 * 2 ^ 57 := Nat.mul_lt_mul_of_pos_right h2 (by decide)
  generalize m * 2 ^ k = N at *
  have q2 := rootFrom_le N (N.log2 / 2 + 1) 0 (by omega)
  generalize Datum.rootFrom N (N.log2 / 2 + 1) 0 = r at *
  have q3 : r < 2 ^ 55 := by
    rcases Nat.lt_or_ge r (2 ^ 55) with g | g
    · exact g
    · have : 2 ^ 55 * 2 ^ 55 ≤ r * r := Nat.mul_le_mul g g
      omega
  have q4 : (r * r != N).toNat ≤ 1 := by cases (r * r != N) <;> decide
  exact ⟨_, _, rfl, by omega, by omega, by omega⟩
theorem aux_min {Z K : Nat} (q1 : Z ≤ 1048) (key : K ≤ 2 ^ 53) : min (Z * 4503599627370496 + K) 9218868437227405312 ≤ 1050 * 2 ^ 52 := by
  refine Nat.le_trans (Nat.min_le_left (Z * 4503599627370496 + K) 9218868437227405312) ?_
  have h : 1050 * 2 ^ 52 = 1048 * 4503599627370496 + 2 ^ 53 := by decide
  rw [h]
  exact Nat.add_le_add (Nat.mul_le_mul_right _ q1) key
theorem write_bd (M : Nat) (p : Int) (h : M < 2 ^ 56) (h1 : -56 ≤ p) (h2 : p ≤ -29) : double.nearest false M p ≤ 1050 * 2 ^ 52 := by
  have e2 : double.binade = 4503599627370496 := by decide
  have e3 : double.infRung = 9218868437227405312 := by decide
  have e4 : double.leastPlace = -1074 := by decide
  have e5 : double.fractionBits = 52 := by decide
  unfold Format.nearest
  by_cases h0 : M = 0
  · rw [if_pos h0]; simp [Format.word]
  · rw [if_neg h0]
    have l1 : M.log2 < 56 := (Nat.log2_lt h0).2 h
    simp only [e2, e3, e4, e5, Format.word]
    have m1 : max (p + (M.log2 : Int) - ((52 : Nat) : Int)) (-1074) = p + (M.log2 : Int) - 52 := by omega
    rw [m1]
    have b1 : M < 2 ^ (M.log2 + 1) := Nat.lt_log2_self
    have key : Toward.even.cut false (M <<< (p - (p + (M.log2 : Int) - 52)).toNat) (p + (M.log2 : Int) - 52 - p).toNat ≤ 2 ^ 53 := by
      by_cases c : M.log2 ≤ 52
      · have a1 : (p - (p + (M.log2 : Int) - 52)).toNat = 52 - M.log2 := by omega
        have a2 : (p + (M.log2 : Int) - 52 - p).toNat = 0 := by omega
        rw [a1, a2, cut_even_0, Nat.shiftLeft_eq]
        have b2 : M * 2 ^ (52 - M.log2) < 2 ^ (M.log2 + 1) * 2 ^ (52 - M.log2) := Nat.mul_lt_mul_of_pos_right b1 (Nat.two_pow_pos _)
        rw [← Nat.pow_add, show M.log2 + 1 + (52 - M.log2) = 53 by omega] at b2
        omega
      · have a1 : (p - (p + (M.log2 : Int) - 52)).toNat = 0 := by omega
        have a2 : (p + (M.log2 : Int) - 52 - p).toNat = M.log2 - 52 := by omega
        rw [a1, a2]
        unfold Toward.cut
        have s0 : M <<< 0 = M := rfl
        have s1 : min (M.log2 - 52) (M.log2 + 2) = M.log2 - 52 := by omega
        simp only [s0, s1, Nat.shiftLeft_eq, Nat.one_mul]
        have b3 : M / 2 ^ (M.log2 - 52) < 2 ^ 53 := by
          rw [Nat.div_lt_iff_lt_mul (Nat.two_pow_pos _), ← Nat.pow_add, show 53 + (M.log2 - 52) = M.log2 + 1 by omega]
          exact b1
        have b4 : ∀ b : Bool, b.toNat ≤ 1 := by decide
        have := b4 (decide (2 ^ (M.log2 - 52) < 2 * (M % 2 ^ (M.log2 - 52))) || (2 ^ (M.log2 - 52) == 2 * (M % 2 ^ (M.log2 - 52)) && M / 2 ^ (M.log2 - 52) % 2 == 1))
        omega
    generalize Toward.even.cut false (M <<< (p - (p + (M.log2 : Int) - 52)).toNat) (p + (M.log2 : Int) - 52 - p).toNat = K at *
    rw [if_neg (by decide)]
    have q1 : (p + (M.log2 : Int) - 52 - -1074).toNat ≤ 1048 := by omega
    exact aux_min q1 key
theorem toInt_bd (W : Nat) (h : W ≤ 1050 * 2 ^ 52) : ∃ r : Nat, (double.read W).toInt .zero = some (r : Int) ∧ r ≤ 2 ^ 30 := by
  obtain ⟨mag, place, hr, hm, hc⟩ := word_bd false W (by omega)
  rw [hr]
  have hp : place ≤ -25 := by
    rcases hc with ⟨_, _, c⟩ | ⟨_, _, c⟩ <;> omega
  unfold Datum.toInt Datum.integral
  have e1 : place.toNat = 0 := by omega
  simp only [e1]
  refine ⟨_, rfl, ?_⟩
  have e2 : mag <<< 0 = mag := rfl
  rw [e2]
  unfold Toward.cut
  simp only [Nat.shiftLeft_eq, Nat.one_mul]
  generalize hd : (-place).toNat = d
  have hd2 : 25 ≤ d := by omega
  by_cases c : d ≤ mag.log2 + 2
  · rw [show min d (mag.log2 + 2) = d by omega]
    have : mag / 2 ^ d ≤ mag / 2 ^ 25 := Nat.div_le_div_left (Nat.pow_le_pow_right (by decide) hd2) (by decide)
    show (mag / 2 ^ d + 0) * 2 ^ 0 ≤ _
    rw [Nat.pow_zero]
    omega
  · rw [show min d (mag.log2 + 2) = mag.log2 + 2 by omega]
    have b1 : mag < 2 ^ (mag.log2 + 1) := Nat.lt_log2_self
    have b2 : 2 ^ (mag.log2 + 1) ≤ 2 ^ (mag.log2 + 2) := Nat.pow_le_pow_right (by decide) (by omega)
    have : mag / 2 ^ (mag.log2 + 2) = 0 := Nat.div_eq_of_lt (by omega)
    show (mag / 2 ^ (mag.log2 + 2) + 0) * 2 ^ 0 ≤ _
    rw [Nat.pow_zero]
    omega
theorem sqrt_ok (n : Nat) (h : n < 2 ^ 52) : ∃ y r : Nat, FloatKind.f64.format.sqrt (FloatKind.f64.nearest (n : Int)) = some y ∧ (FloatKind.f64.decode y).toInt .zero = some (r : Int) ∧ r ≤ 2 ^ 30 := by
  have e : FloatKind.f64.nearest (n : Int) = double.nearest false n 0 := by
    have : decide ((n : Int) < 0) = false := by simp
    unfold FloatKind.nearest FloatKind.encode Format.write FloatKind.format
    rw [this]
    rfl
  rw [e]
  unfold FloatKind.decode FloatKind.format Format.sqrt
  have e5 : double.fractionBits + 2 = 54 := by decide
  simp only [e5]
  by_cases h0 : n = 0
  · subst h0
    exact ⟨0, 0, by decide +kernel, by decide +kernel, by omega⟩
  · obtain ⟨m, hr, hm1, hm2⟩ := near_read n h0 h
    have l1 : n.log2 < 52 := (Nat.log2_lt h0).2 h
    obtain ⟨M, p, hq, hM, hp1, hp2⟩ := root_bd m ((n.log2 : Int) - 52) hm1 hm2 (by omega) (by omega)
    rw [hr, hq]
    obtain ⟨r, hr2, hb⟩ := toInt_bd (double.nearest false M p) (write_bd M p hM hp1 hp2)
    exact ⟨_, r, rfl, hr2, hb⟩
/-! ### integer square roots -/
def isq : Nat → Nat
  | 0 => 0
  | n + 1 => if (isq n + 1) * (isq n + 1) ≤ n + 1 then isq n + 1 else isq n
theorem isq_spec (n : Nat) : isq n * isq n ≤ n ∧ n < (isq n + 1) * (isq n + 1) := by
  induction n with
  | zero => simp [isq]
  | succ n ih =>
    unfold isq
    split
    · next h =>
      refine ⟨h, ?_⟩
      have e : (isq n + 1 + 1) * (isq n + 1 + 1) = (isq n + 1) * (isq n + 1) + 2 * (isq n + 1) + 1 := by grind
      omega
    · next h => exact ⟨by omega, by omega⟩
/-- The greatest integer whose square is not greater. -/
def rt (n : Int) : Int := isq n.toNat
theorem rt_nonneg (n : Int) : 0 ≤ rt n := by unfold rt; omega
theorem rt_le {n : Int} (h : 0 ≤ n) : rt n * rt n ≤ n := by
  have := (isq_spec n.toNat).1
  unfold rt
  have e : ((isq n.toNat * isq n.toNat : Nat) : Int) ≤ (n.toNat : Int) := by exact_mod_cast this
  push_cast at e
  omega
theorem rt_lt {n : Int} (h : 0 ≤ n) : n < (rt n + 1) * (rt n + 1) := by
  have := (isq_spec n.toNat).2
  unfold rt
  have e : (n.toNat : Int) < (((isq n.toNat + 1) * (isq n.toNat + 1) : Nat) : Int) := by exact_mod_cast this
  push_cast at e
  omega
theorem sq_lt {a b : Int} (h0 : 0 ≤ b) (h : a * a < b * b) : a < b := by
  rcases Int.lt_or_le a b with g | g
  · exact g
  · have := Int.mul_le_mul g g h0 (by omega)
    omega
theorem rt_eq {n r : Int} (h0 : 0 ≤ r) (h1 : r * r ≤ n) (h2 : n < (r + 1) * (r + 1)) : rt n = r := by
  have hn : 0 ≤ n := by have := Int.mul_nonneg h0 h0; omega
  have a := rt_le hn
  have b := rt_lt hn
  have c := rt_nonneg n
  have d : rt n < r + 1 := sq_lt (by omega) (by omega)
  have e : r < rt n + 1 := sq_lt (by omega) (by omega)
  omega
theorem rt_sq {n r : Int} (h0 : 0 ≤ r) (h1 : r * r = n) : rt n = r := rt_eq h0 (by omega) (by rw [show (r + 1) * (r + 1) = r * r + 2 * r + 1 by grind]; omega)
/-- Is it a square? -/
def sqB (n : Int) : Bool := decide (0 ≤ n) && (rt n * rt n == n)
theorem sqB_iff {n : Int} : sqB n = true ↔ ∃ r : Int, 0 ≤ r ∧ r * r = n := by
  unfold sqB
  constructor
  · intro h
    simp only [Bool.and_eq_true, decide_eq_true_eq, beq_iff_eq] at h
    exact ⟨rt n, rt_nonneg n, h.2⟩
  · rintro ⟨r, h0, h1⟩
    have := rt_sq h0 h1
    have := Int.mul_nonneg h0 h0
    simp only [Bool.and_eq_true, decide_eq_true_eq, beq_iff_eq]
    constructor
    · omega
    · rw [rt_sq h0 h1]; exact h1
def xrR (n : Int) : Value := if sqB n then .tuple #[.int .i64 (rt n), .bool true] else .tuple #[.int .i64 0, .bool false]
theorem sq_b {r : Int} (h0 : 0 ≤ r) (h : r ≤ 2147483648) : 0 ≤ r * r ∧ r * r ≤ 4611686018427387904 := by
  refine ⟨Int.mul_nonneg h0 h0, ?_⟩
  exact Int.mul_le_mul h h h0 (by omega)
theorem extSqrt (x y : Nat) (h : FloatKind.f64.format.sqrt x = some y) (w : World) : (callFunc 140 #[.float .f64 x]).run Tryz.prog w = .ok (.value (.float .f64 y)) w := by
  rw [run_callFunc_extern Tryz.func140 (by kernel_rfl) (by kernel_rfl) (by kernel_rfl) (e := Extern.MathSqrt.sqrt) (by kernel_rfl)]
  have e : Extern.MathSqrt.sqrt #[.float .f64 x] = pure (.float .f64 y) := by
    show (match FloatKind.f64.format.sqrt x with | some r => (pure (Value.float .f64 r) : Sem Value) | none => do pure (Value.float .f64 (← choose (.nanBits .f64 x x)))) = _
    rw [h]
  rw [e]; rfl
theorem Sqrt_any (x y : Nat) (h : FloatKind.f64.format.sqrt x = some y) (w : World) : Calls Tryz.prog 126 #[.float .f64 x] w (Same (.float .f64 y) w) := by
  have hs := extSqrt x y h
  clear h
  go_enter Tryz.func126, Tryz.ntmps126
  go_wp2
  go_ret
  exact same rfl
theorem sqrt_bits (n : Int) (h0 : 0 ≤ n) (h : n < 4503599627370496) : ∃ (y : Nat) (r : Int), FloatKind.f64.format.sqrt (floatOfInt .f64 n) = some y ∧ floatToIntVal .f64 y .i64 = some r ∧ 0 ≤ r ∧ r ≤ 1073741824 := by
  obtain ⟨y, r, h1, h2, h3⟩ := sqrt_ok n.toNat (by omega)
  rw [show ((n.toNat : Nat) : Int) = n by omega] at h1
  refine ⟨y, r, h1, ?_, by omega, by omega⟩
  unfold floatToIntVal
  rw [h2]
  have a1 : IntKind.i64.min = -9223372036854775808 := by decide
  have a2 : IntKind.i64.max = 9223372036854775807 := by decide
  simp only [a1, a2]
  rw [if_pos (by omega)]
theorem exactRoot_any (n : Int) (hn : n < 4503599627370496) (w : World) : Calls Tryz.prog 91 #[.int .i64 n] w (Same (xrR n) w) := by
  by_cases h0 : n < 0
  · have e : xrR n = .tuple #[.int .i64 0, .bool false] := by unfold xrR sqB; rw [if_neg (by simp; omega)]
    rw [e]
    go_enter Tryz.func91, Tryz.ntmps91
    go_wp2
    go_ret2
    exact same rfl
  · obtain ⟨y, r0, h1, h2, h3, h4⟩ := sqrt_bits n (by omega) hn
    have hc : ∀ w, (convert 114 3 (.float .f64 y)).run Tryz.prog w = .ok (.int .i64 r0) w := fun w => run_convert_float_int w 114 3 .f64 .i64 y r0 (by rw [Tryz.underlying114]; rfl) Tryz.underlying3 h2
    have H1 := Lib.hid h1
    clear h1 h2
    go_enter Tryz.func91, Tryz.ntmps91
    go_wp2_with (first | (go_at_call 126; refine (Sqrt_any _ _ H1.out _).mono ?_; rintro e w1 ⟨rfl, rfl⟩) | simp only [hc])
    clear hc
    go_loop [4] (fun v4 => ∃ r : Int, v4 = .int .i64 r ∧ 0 ≤ r ∧ r ≤ 1073741824) (fun v4 => (intOf v4).toNat)
    case atStart => exact ⟨r0, rfl, h3, h4⟩
    case round =>
      clear h3 h4
      obtain ⟨r, rfl, h3, h4⟩ := hrel
      obtain ⟨b1, b2⟩ := sq_b h3 (by omega)
      by_cases hlt : n < r * r
      · have hpos : 1 ≤ r := by
          rcases Int.lt_or_le r 1 with g | g
          · obtain rfl : r = 0 := by omega
            simp at hlt; omega
          · exact g
        go_wp2
        go_round
        case rel => exact ⟨r - 1, rfl, by omega, by omega⟩
        case measure => simp [intOf]; omega
      · have hle : r * r ≤ n := by omega
        have hs : r ≤ 67108864 := by have := sq_lt (a := r) (b := 67108865) (by omega) (by omega); omega
        go_wp2
        clear hlt b1 b2 h4
        go_loop [4] (fun v4 => ∃ r : Int, v4 = .int .i64 r ∧ 0 ≤ r ∧ r ≤ 67108864 ∧ r * r ≤ n) (fun v4 => (67108864 - intOf v4).toNat)
        case atStart => exact ⟨r, rfl, h3, hs, hle⟩
        case round =>
          clear h3 hs hle
          obtain ⟨q, rfl, h3, hs, hle⟩ := hrel
          obtain ⟨b1, b2⟩ := sq_b (r := q + 1) (by omega) (by omega)
          obtain ⟨b3, b4⟩ := sq_b (r := q) (by omega) (by omega)
          by_cases hlt : (q + 1) * (q + 1) ≤ n
          · have hs2 : q + 1 ≤ 67108864 := by have := sq_lt (a := q + 1) (b := 67108865) (by omega) (by omega); omega
            go_wp2
            go_round
            case rel => exact ⟨q + 1, rfl, by omega, by omega, hlt⟩
            case measure => simp [intOf]; omega
          · have e : rt n = q := rt_eq h3 hle (by omega)
            by_cases hq : q * q = n
            · have e2 : xrR n = .tuple #[.int .i64 q, .bool true] := by unfold xrR; rw [if_pos (sqB_iff.2 ⟨q, h3, hq⟩), e]
              have E2 := Lib.hid e2
              have q1 : (q * q != n) = false := by simp [hq]
              clear e e2 hq
              go_wp2
              go_ret2
              exact same E2.out.symm
            · have e2 : xrR n = .tuple #[.int .i64 0, .bool false] := by
                unfold xrR
                rw [if_neg]
                intro hh
                unfold sqB at hh
                rw [e] at hh
                simp at hh
                exact hq hh.2
              have E2 := Lib.hid e2
              have q1 : (q * q != n) = true := by simp [hq]
              clear e e2 hq
              go_wp2
              go_ret2
              exact same E2.out.symm
end Go.Proofs.YtjgdajeoeagggaaGreat
