import Derived.Test.YtjgdajeoeagggaaGreatYBase
import Derived.Deep.DeepMust
set_option linter.unusedSimpArgs false
set_option linter.unusedVariables false
namespace Go.Proofs.YtjgdajeoeagggaaGreat
open Go.RowKit
/-! ### small numbers -/
def inB (n lo hi : Int) : Bool := decide (lo ≤ n) && decide (n ≤ hi)
theorem inB_iff {n lo hi : Int} : inB n lo hi = true ↔ lo ≤ n ∧ n ≤ hi := by simp [inB]
theorem inB_t {n lo hi : Int} (h1 : lo ≤ n) (h2 : n ≤ hi) : inB n lo hi = true := inB_iff.2 ⟨h1, h2⟩
theorem inB_f1 {n lo hi : Int} (h1 : n < lo) : inB n lo hi = false := by simp [inB]; omega
theorem inside_any (n lo hi : Int) (w : World) : Calls Tryz.prog 52 #[.int .i64 n, .int .i64 lo, .int .i64 hi] w (Same (.bool (inB n lo hi)) w) := by
  go_enter Tryz.func52, Tryz.ntmps52
  go_wp2
  all_goals (go_ret; exact same (vbool (by simp only [inB, *]; simp; try omega)))
theorem l1In_any (n lo hi : Int) (w : World) : Calls Tryz.prog 63 #[.int .i64 n, .int .i64 lo, .int .i64 hi] w (Same (.bool (inB n lo hi)) w) := by
  go_enter Tryz.func63, Tryz.ntmps63
  go_wp2
  all_goals (go_ret; exact same (vbool (by simp only [inB, *]; simp; try omega)))
theorem l1Most_any (a b : Int) (w : World) : Calls Tryz.prog 127 #[.int .i64 a, .int .i64 b] w (Same (.int .i64 (max a b)) w) := by
  go_enter Tryz.func127, Tryz.ntmps127
  go_wp2
  all_goals (go_ret; exact same (vint (by omega)))
theorem l1Abs_any (a : Int) (w : World) : Calls Tryz.prog 94 #[.int .i64 a] w (Same (.int .i64 (max a (wrap64 (-a)))) w) := by
  go_enter Tryz.func94, Tryz.ntmps94
  go_wp2_with (go_at_call 127; refine (l1Most_any _ _ _).mono ?_; rintro e w' ⟨rfl, rfl⟩)
  go_ret
  exact same rfl
/-! ### curves -/
def dsc (a b : Int) : Int := wrap64 (4*a*a*a+27*b*b)
def isC (a b : Int) : Bool := inB a (-1000) 1000 && inB b (-10000) 10000 && dsc a b != 0
theorem core_any (a b : Int) (w : World) : Calls Tryz.prog 89 #[.agg #[.int .i64 a, .int .i64 b]] w (Gives (.int .i64 (dsc a b)) w) := by
  go_enter Tryz.func89, Tryz.ntmps89
  go_wp2
  go_ret
  exact gives (vint (by simp only [dsc, wadd_l, wadd_r, wmul_l, wmul_r])) (by go_grown)
theorem isCurve_any (a b : Int) (w : World) : Calls Tryz.prog 42 #[.agg #[.int .i64 a, .int .i64 b]] w (Gives (.bool (isC a b)) w) := by
  go_enter Tryz.func42, Tryz.ntmps42
  go_wp2_with (first | (go_at_call 52; refine (inside_any _ _ _ _).mono ?_; rintro e w' ⟨rfl, rfl⟩) | (go_at_call 89; refine (core_any _ _ _).mono ?_; rintro e w' ⟨rfl, hb⟩))
  all_goals (go_ret; exact gives (vbool (by simp [isC, *])) (by first | (go_grown; done) | exact bthen (by go_grown) hb))
theorem ecDisc_any (a b : Int) (w : World) : Calls Tryz.prog 90 #[.agg #[.int .i64 a, .int .i64 b]] w (Gives (.int .i64 (dsc a b)) w) := by
  go_enter Tryz.func90, Tryz.ntmps90
  go_wp2
  go_ret
  exact gives (vint (by simp only [dsc, wadd_l, wadd_r, wmul_l, wmul_r])) (by go_grown)
theorem ecGood_any (a b : Int) (w : World) : Calls Tryz.prog 44 #[.agg #[.int .i64 a, .int .i64 b]] w (Gives (.bool (isC a b)) w) := by
  go_enter Tryz.func44, Tryz.ntmps44
  go_wp2_with (first | (go_at_call 63; refine (l1In_any _ _ _ _).mono ?_; rintro e w' ⟨rfl, rfl⟩) | (go_at_call 90; refine (ecDisc_any _ _ _).mono ?_; rintro e w' ⟨rfl, hb⟩))
  all_goals (go_ret; exact gives (vbool (by simp [isC, *])) (by first | (go_grown; done) | exact bthen (by go_grown) hb))
/-! ### quartics -/
/-! ### primes -/
def Pr (n : Int) : Prop := 2 ≤ n ∧ ∀ d : Int, 2 ≤ d → d * d ≤ n → ¬ n % d = 0
open Classical in
noncomputable def prB (n : Int) : Bool := decide (Pr n)
theorem prB_t {n : Int} (h : Pr n) : prB n = true := by simp [prB, h]
theorem prB_f {n : Int} (h : ¬ Pr n) : prB n = false := by simp [prB, h]
def NoDiv (n k : Int) : Prop := 2 ≤ k ∧ k * k ≤ 3 * n + 4 ∧ ∀ d : Int, 2 ≤ d → d < k → ¬ n % d = 0
theorem nodiv_start (n : Int) (h : 0 ≤ n) : NoDiv n 2 := ⟨by omega, by omega, fun d h1 h2 => by omega⟩
theorem nodiv_step {n k : Int} (h : NoDiv n k) (h1 : k * k ≤ n) (h2 : ¬ n % k = 0) : NoDiv n (k + 1) := by
  obtain ⟨a, b, c⟩ := h
  have e : 2 * k ≤ k * k := Int.mul_le_mul_of_nonneg_right a (by omega)
  refine ⟨by omega, ?_, fun d x y => ?_⟩
  · have : (k + 1) * (k + 1) = k * k + 2 * k + 1 := by grind
    omega
  · by_cases hd : d = k
    · subst hd; exact h2
    · exact c d x (by omega)
theorem nodiv_end {n k : Int} (h : NoDiv n k) (h1 : n < k * k) (h2 : 2 ≤ n) : Pr n := by
  refine ⟨h2, fun d x y => h.2.2 d x ?_⟩
  rcases Int.lt_or_le d k with g | g
  · exact g
  · have : k * k ≤ d * d := Int.mul_le_mul g g (by have := h.1; omega) (by omega)
    omega
theorem pr_no {n k : Int} (h : NoDiv n k) (h1 : k * k ≤ n) (h2 : n % k = 0) : ¬ Pr n := fun p => p.2 k h.1 h1 h2
theorem isPrime_any (n : Int) (hn : n ≤ 1000000000000000000) (w : World) : Calls Tryz.prog 105 #[.int .i64 n] w (Same (.bool (prB n)) w) := by
  by_cases h0 : n < 2
  · have hp : prB n = false := prB_f (fun p => by have := p.1; omega)
    go_enter Tryz.func105, Tryz.ntmps105
    go_wp2
    refine wp_loop_rounds 1 ?_; rw [rounds_succ]
    go_wp2
    go_ret
    exact same (vbool (by rw [hp]; simp; omega))
  · go_enter Tryz.func105, Tryz.ntmps105
    go_wp2
    go_loop [3] (fun d => ∃ k : Int, d = .int .i64 k ∧ NoDiv n k) (fun d => (n + 2 - intOf d).toNat)
    case atStart => exact ⟨2, rfl, nodiv_start n (by omega)⟩
    case round =>
      obtain ⟨k, rfl, hr⟩ := hrel
      have h2 := hr.1
      have hkk := hr.2.1
      have hk0 : 0 ≤ k * k := Int.mul_nonneg (by omega) (by omega)
      have hk1 : k ≤ k * k := by have := Int.mul_le_mul_of_nonneg_right (show 1 ≤ k by omega) (show 0 ≤ k by omega); omega
      go_wp2
      · have g1 : k * k ≤ n := by assumption
        have g2 : (n % k == 0) = true := by assumption
        have hp : prB n = false := prB_f (pr_no hr g1 (by simpa using g2))
        go_ret
        exact same (vbool hp.symm)
      · have g1 : k * k ≤ n := by assumption
        have g2 : (n % k == 0) = false := by assumption
        exact ⟨⟨_, rfl, nodiv_step hr g1 (by simpa using g2)⟩, by simp [intOf]; omega⟩
      · have g1 : n < k * k := by assumption
        have hp : prB n = true := prB_t (nodiv_end hr g1 (by omega))
        go_ret
        exact same (vbool hp.symm)
noncomputable def mdPr (n : Int) : Bool := inB n 2 997 && prB n
theorem mdPrime_any (n : Int) (w : World) : Calls Tryz.prog 110 #[.int .i64 n] w (Same (.bool (mdPr n)) w) := by
  by_cases h0 : inB n 2 997 = true
  · have h0' := inB_iff.1 h0
    have h00 : 2 ≤ n := h0'.1
    have h01 : n ≤ 997 := h0'.2
    go_enter Tryz.func110, Tryz.ntmps110
    go_wp2_with (go_at_call 63; refine (l1In_any _ _ _ _).mono ?_; rintro e w' ⟨rfl, rfl⟩)
    go_loop [3] (fun d => ∃ k : Int, d = .int .i64 k ∧ NoDiv n k) (fun d => (n + 2 - intOf d).toNat)
    case atStart => exact ⟨2, rfl, nodiv_start n (by omega)⟩
    case round =>
      obtain ⟨k, rfl, hr⟩ := hrel
      have h2 := hr.1
      have hkk := hr.2.1
      have hk0 : 0 ≤ k * k := Int.mul_nonneg (by omega) (by omega)
      have hk1 : k ≤ k * k := by have := Int.mul_le_mul_of_nonneg_right (show 1 ≤ k by omega) (show 0 ≤ k by omega); omega
      go_wp2
      · have g1 : k * k ≤ n := by assumption
        have g2 : (n % k == 0) = true := by assumption
        have hp : prB n = false := prB_f (pr_no hr g1 (by simpa using g2))
        go_ret
        exact same (vbool (by simp [mdPr, hp]))
      · have g1 : k * k ≤ n := by assumption
        have g2 : (n % k == 0) = false := by assumption
        exact ⟨⟨_, rfl, nodiv_step hr g1 (by simpa using g2)⟩, by simp [intOf]; omega⟩
      · have g1 : n < k * k := by assumption
        have hp : prB n = true := prB_t (nodiv_end hr g1 (by omega))
        go_ret
        exact same (vbool (by simp [mdPr, hp, h0]))
  · have h0' : inB n 2 997 = false := by simpa using h0
    go_enter Tryz.func110, Tryz.ntmps110
    go_wp2_with (go_at_call 63; refine (l1In_any _ _ _ _).mono ?_; rintro e w' ⟨rfl, rfl⟩)
    go_ret
    exact same (vbool (by simp [mdPr, h0']))
/-! ### the depth of a prime -/
/-! ### divisors -/
theorem gcd_tmod (x y : Int) : Int.gcd y (x.tmod y) = Int.gcd x y := by
  show Nat.gcd y.natAbs (x.tmod y).natAbs = Nat.gcd x.natAbs y.natAbs
  rw [Int.natAbs_tmod, Nat.gcd_comm y.natAbs, ← Nat.gcd_rec, Nat.gcd_comm]
theorem tmod_lt (x y : Int) (h : y ≠ 0) : (x.tmod y).natAbs < y.natAbs := by
  rw [Int.natAbs_tmod]; exact Nat.mod_lt _ (by omega)
theorem gcd_any (a b : Int) (ha : -9223372036854775807 ≤ a) (ha' : a ≤ 9223372036854775807) (hb : -9223372036854775807 ≤ b) (hb' : b ≤ 9223372036854775807) (w : World) : Calls Tryz.prog 54 #[.int .i64 a, .int .i64 b] w (Quiet (.int .i64 (Int.gcd a b)) w) := by
  go_enter Tryz.func54, Tryz.ntmps54
  go_wp2
  go_loopw [0, 1] (fun v0 v1 wr => ∃ (x y : Int) (n : Nat), v0 = .int .i64 x ∧ v1 = .int .i64 y ∧ wr = w.drewN n ∧ Int.gcd x y = Int.gcd a b ∧ x.natAbs ≤ 9223372036854775807 ∧ y.natAbs ≤ 9223372036854775807) (fun _ v1 _ => (intOf v1).natAbs)
  case atStart => exact ⟨a, b, 0, rfl, rfl, rfl, rfl, by omega, by omega⟩
  case round =>
    obtain ⟨x, y, n, rfl, rfl, rfl, hg, hx, hy⟩ := hrel
    have HG := Lib.hid hg; clear hg
    by_cases h0 : y = 0
    · subst h0
      go_wp2
      go_ret
      refine quiet n (vint ?_)
      have := HG.out
      rw [Int.gcd_zero_right] at this
      omega
    · have h1 : (y == 0) = false := by simpa using h0
      have h2 := tmod_lt x y h0
      have h3 := gcd_tmod x y
      have H3 := Lib.hid h3; clear h3
      go_wp2
      go_quiet (fail)
      go_wp2
      go_roundw
      case rel => exact ⟨y, x.tmod y, _, rfl, rfl, World.drewN_drewN .., by rw [H3.out]; exact HG.out, by omega, by omega⟩
      case measure => exact h2
theorem bgCommon_any (a b : Int) (ha : 0 ≤ a) (hb : 0 ≤ b) (w : World) : Calls Tryz.prog 58 #[.int .i64 a, .int .i64 b] w (Same (.int .i64 (Int.gcd a b)) w) := by
  go_enter Tryz.func58, Tryz.ntmps58
  go_wp2
  go_loop [0, 1] (fun v0 v1 => ∃ (x y : Int), v0 = .int .i64 x ∧ v1 = .int .i64 y ∧ Int.gcd x y = Int.gcd a b ∧ 0 ≤ x ∧ 0 ≤ y) (fun _ v1 => (intOf v1).natAbs)
  case atStart => exact ⟨a, b, rfl, rfl, rfl, ha, hb⟩
  case round =>
    obtain ⟨x, y, rfl, rfl, hg, hx, hy⟩ := hrel
    have HG := Lib.hid hg; clear hg
    by_cases h0 : y = 0
    · subst h0
      go_wp2
      go_ret
      refine same (vint ?_)
      have := HG.out
      rw [Int.gcd_zero_right] at this
      omega
    · have hy1 : 0 < y := by omega
      have h1 : (y == 0) = false := by simpa using h0
      have h2 : x % y < y := Int.emod_lt_of_pos _ hy1
      have h3 : 0 ≤ x % y := Int.emod_nonneg _ h0
      have h4 : Int.gcd y (x % y) = Int.gcd x y := by rw [← Int.tmod_eq_emod_of_nonneg hx]; exact gcd_tmod x y
      have H4 := Lib.hid h4; clear h4
      go_wp2
      go_round
      case rel => exact ⟨y, x % y, rfl, rfl, by rw [H4.out]; exact HG.out, hy, h3⟩
      case measure => simp [intOf]; omega
/-! ### residues -/
theorem tmod_bd (a m : Int) (h : 1 ≤ m) : -m < a.tmod m ∧ a.tmod m < m := by
  have := tmod_lt a m (by omega)
  omega
theorem mod_mod (a m : Int) (h : 1 ≤ m) : (a.tmod m + m) % m = a % m := by
  rw [Int.add_emod_right]
  have e := Int.mul_tdiv_add_tmod a m
  have : a % m = (m * a.tdiv m + a.tmod m) % m := by rw [e]
  rw [this, Int.mul_add_emod_self_left]
theorem modulo_any (a m : Int) (h : 1 ≤ m) (h' : m ≤ 4000000000000000000) (w : World) : Calls Tryz.prog 109 #[.int .i64 a, .int .i64 m] w (Same (.int .i64 (a % m)) w) := by
  have h1 := (tmod_bd a m h).1
  have h2 := (tmod_bd a m h).2
  have h3 : (m == 0) = false := by simp; omega
  have h4 := Lib.hid (mod_mod a m h)
  go_enter Tryz.func109, Tryz.ntmps109
  go_wp2
  go_ret
  exact same (vint h4.out)
theorem tmod_bd' (a m : Int) (h : 1 ≤ m) : -m < a.tmod m ∧ a.tmod m < m := by
  have := tmod_lt a m (by omega)
  omega
theorem mod_mod' (a m : Int) (h : 1 ≤ m) : (a.tmod m + m) % m = a % m := by
  rw [Int.add_emod_right]
  have e := Int.mul_tdiv_add_tmod a m
  have : a % m = (m * a.tdiv m + a.tmod m) % m := by rw [e]
  rw [this, Int.mul_add_emod_self_left]
theorem mdMod_any (a m : Int) (h : 1 ≤ m) (h' : m ≤ 4000000000000000000) (w : World) : Calls Tryz.prog 111 #[.int .i64 a, .int .i64 m] w (Same (.int .i64 (a % m)) w) := by
  have h1 := (tmod_bd' a m h).1
  have h2 := (tmod_bd' a m h).2
  have h3 : (m == 0) = false := by simp; omega
  have h4 := Lib.hid (mod_mod' a m h)
  go_enter Tryz.func111, Tryz.ntmps111
  go_wp2
  go_ret
  exact same (vint h4.out)
def pw (a n p : Int) : Int := a ^ n.toNat % p
def PwInv (a n p o b k : Int) : Prop := 0 ≤ o ∧ o < p ∧ 0 ≤ b ∧ b < p ∧ 0 ≤ k ∧ k ≤ n ∧ (o * b ^ k.toNat) % p = pw a n p
theorem emod_pow (a p : Int) (n : Nat) : (a % p) ^ n % p = a ^ n % p := by
  induction n with
  | zero => simp
  | succ n ih => rw [Int.pow_succ, Int.pow_succ, Int.mul_emod, ih, Int.emod_emod, ← Int.mul_emod]
theorem pw_start {a n p : Int} (hp : 2 ≤ p) (hn : 0 ≤ n) : PwInv a n p 1 (a % p) n :=
  ⟨by omega, by omega, Int.emod_nonneg _ (by omega), Int.emod_lt_of_pos _ (by omega), hn, Int.le_refl _, by rw [Int.one_mul]; exact emod_pow a p _⟩
theorem pow_half (b : Int) (k : Nat) : b ^ k = (b * b) ^ (k / 2) * (if k % 2 = 1 then b else 1) := by
  have e : k = 2 * (k / 2) + k % 2 := by omega
  have h2 : ∀ j : Nat, b ^ (2 * j) = (b * b) ^ j := fun j => by rw [Int.pow_mul]; congr 1; rw [Int.pow_succ, Int.pow_succ]; simp
  by_cases h : k % 2 = 1
  · rw [if_pos h]; conv => lhs; rw [e, h, Int.pow_succ, h2]
  · rw [if_neg h]; have h0 : k % 2 = 0 := by omega
    conv => lhs; rw [e, h0, Nat.add_zero, h2]
    simp
theorem pw_odd {a n p o b k : Int} (h : PwInv a n p o b k) (hp : 2 ≤ p) (h1 : k % 2 = 1) : PwInv a n p (o * b % p) (b * b % p) (k / 2) := by
  obtain ⟨a1, a2, a3, a4, a5, a6, a7⟩ := h
  refine ⟨Int.emod_nonneg _ (by omega), Int.emod_lt_of_pos _ (by omega), Int.emod_nonneg _ (by omega), Int.emod_lt_of_pos _ (by omega), by omega, by omega, ?_⟩
  rw [← a7, pow_half b k.toNat, if_pos (by omega), Int.mul_emod, emod_pow, Int.emod_emod, ← Int.mul_emod]
  have e : (k / 2).toNat = k.toNat / 2 := by omega
  rw [e]; congr 1; rw [Int.mul_assoc, Int.mul_comm b]
theorem pw_even {a n p o b k : Int} (h : PwInv a n p o b k) (hp : 2 ≤ p) (h1 : k % 2 = 0) : PwInv a n p o (b * b % p) (k / 2) := by
  obtain ⟨a1, a2, a3, a4, a5, a6, a7⟩ := h
  refine ⟨a1, a2, Int.emod_nonneg _ (by omega), Int.emod_lt_of_pos _ (by omega), by omega, by omega, ?_⟩
  rw [← a7, pow_half b k.toNat, if_neg (by omega), Int.mul_emod, emod_pow, ← Int.mul_emod, Int.mul_one]
  have e : (k / 2).toNat = k.toNat / 2 := by omega
  rw [e]
theorem pw_end {a n p o b : Int} (h : PwInv a n p o b 0) : o = pw a n p := by
  obtain ⟨a1, a2, a3, a4, a5, a6, a7⟩ := h
  rw [← a7]; simp; exact (Int.emod_eq_of_lt a1 a2).symm
theorem sq_bd {x y p : Int} (hp : p ≤ 1000000000) (h1 : 0 ≤ x) (h2 : x < p) (h3 : 0 ≤ y) (h4 : y < p) : 0 ≤ x * y ∧ x * y ≤ 1000000000000000000 := by
  refine ⟨Int.mul_nonneg h1 h3, ?_⟩
  have := Int.mul_le_mul (show x ≤ 1000000000 by omega) (show y ≤ 1000000000 by omega) h3 (by omega)
  omega
theorem power_any (a n p : Int) (hn : 0 ≤ n) (hn' : n ≤ 4000000000000000000) (hp : 2 ≤ p) (hp' : p ≤ 1000000000) (w : World) : Calls Tryz.prog 131 #[.int .i64 a, .int .i64 n, .int .i64 p] w (Gives (.int .i64 (pw a n p)) w) := by
  have hp0 : (p == 0) = false := by simp; omega
  have e1 : (1 : Int) % p = 1 := Int.emod_eq_of_lt (by omega) (by omega)
  have hm1 : 1 ≤ p := by omega
  have hm2 : p ≤ 4000000000000000000 := by omega
  go_enter Tryz.func131, Tryz.ntmps131
  go_wp2
  go_quiet ((go_at_call 109; exact qs (modulo_any _ _ hm1 hm2 _)))
  go_wp2
  go_loop [7, 8, 1] (fun v7 v8 v1 => ∃ o b k : Int, v7 = .int .i64 o ∧ v8 = .int .i64 b ∧ v1 = .int .i64 k ∧ PwInv a n p o b k) (fun _ _ v1 => (intOf v1).toNat)
  case atStart => exact ⟨_, _, _, rfl, rfl, rfl, by first | exact pw_start hp hn | (rw [e1]; exact pw_start hp hn)⟩
  case round =>
    obtain ⟨o, b, k, rfl, rfl, rfl, hi⟩ := hrel
    have h1 := hi.1
    have h2 := hi.2.1
    have h3 := hi.2.2.1
    have h4 := hi.2.2.2.1
    have h5 := hi.2.2.2.2.1
    have h6 := hi.2.2.2.2.2.1
    have s1 := (sq_bd hp' h1 h2 h3 h4).1
    have s2 := (sq_bd hp' h1 h2 h3 h4).2
    have s3 := (sq_bd hp' h3 h4 h3 h4).1
    have s4 := (sq_bd hp' h3 h4 h3 h4).2
    by_cases h0 : 0 < k
    · by_cases ho : k % 2 = 1
      · have hb := pw_odd hi hp ho
        have hob : (k % 2 == 1) = true := by simpa using ho
        clear ho hi
        go_wp2
        go_round
        case rel => exact ⟨_, _, _, rfl, rfl, rfl, hb⟩
        case measure => simp [intOf]; omega
      · have hb := pw_even hi hp (by omega)
        have hob : (k % 2 == 1) = false := by simpa using ho
        clear ho hi
        go_wp2
        go_round
        case rel => exact ⟨_, _, _, rfl, rfl, rfl, hb⟩
        case measure => simp [intOf]; omega
    · obtain rfl : k = 0 := by omega
      have he := pw_end hi
      have HE := Lib.hid he; clear he hi
      go_wp2
      go_ret
      exact gives (vint HE.out) (below_drewN (Below.refl _ _) _)
theorem mdPower_any (a n p : Int) (hn : 0 ≤ n) (hn' : n ≤ 4000000000000000000) (hp : 2 ≤ p) (hp' : p ≤ 1000000000) (w : World) : Calls Tryz.prog 132 #[.int .i64 a, .int .i64 n, .int .i64 p] w (Gives (.int .i64 (pw a n p)) w) := by
  have hp0 : (p == 0) = false := by simp; omega
  have hm1 : 1 ≤ p := by omega
  have hm2 : p ≤ 4000000000000000000 := by omega
  go_enter Tryz.func132, Tryz.ntmps132
  go_wp2_with ((go_at_call 111; refine (mdMod_any _ _ hm1 hm2 _).mono ?_; rintro e w1 ⟨rfl, rfl⟩))
  go_loop [7, 8, 1] (fun v7 v8 v1 => ∃ o b k : Int, v7 = .int .i64 o ∧ v8 = .int .i64 b ∧ v1 = .int .i64 k ∧ PwInv a n p o b k) (fun _ _ v1 => (intOf v1).toNat)
  case atStart => exact ⟨_, _, _, rfl, rfl, rfl, by first | exact pw_start hp hn | (rw [e1]; exact pw_start hp hn)⟩
  case round =>
    obtain ⟨o, b, k, rfl, rfl, rfl, hi⟩ := hrel
    have h1 := hi.1
    have h2 := hi.2.1
    have h3 := hi.2.2.1
    have h4 := hi.2.2.2.1
    have h5 := hi.2.2.2.2.1
    have h6 := hi.2.2.2.2.2.1
    have s1 := (sq_bd hp' h1 h2 h3 h4).1
    have s2 := (sq_bd hp' h1 h2 h3 h4).2
    have s3 := (sq_bd hp' h3 h4 h3 h4).1
    have s4 := (sq_bd hp' h3 h4 h3 h4).2
    by_cases h0 : 0 < k
    · by_cases ho : k % 2 = 1
      · have hb := pw_odd hi hp ho
        have hob : (k % 2 == 1) = true := by simpa using ho
        clear ho hi
        go_wp2
        go_round
        case rel => exact ⟨_, _, _, rfl, rfl, rfl, hb⟩
        case measure => simp [intOf]; omega
      · have hb := pw_even hi hp (by omega)
        have hob : (k % 2 == 1) = false := by simpa using ho
        clear ho hi
        go_wp2
        go_round
        case rel => exact ⟨_, _, _, rfl, rfl, rfl, hb⟩
        case measure => simp [intOf]; omega
    · obtain rfl : k = 0 := by omega
      have he := pw_end hi
      have HE := Lib.hid he; clear he hi
      go_wp2
      go_ret
      have hz : pw a n p % p = pw a n p := Int.emod_eq_of_lt (Int.emod_nonneg _ (by omega)) (Int.emod_lt_of_pos _ (by omega))
      exact gives (vint (by rw [HE.out]; exact hz)) (Below.refl _ _)
/-! ### slices of ints that are read -/
/-- The slice value s reads as the numbers xs. -/
def Ints (w : World) (s : Value) (xs : List Int) : Prop :=
  (∃ a cap, s = .slice a 0 cap ∧ xs = []) ∨
  (∃ b off len cap, s = .slice (some ⟨b, off, none⟩) len cap ∧ xs.length = len ∧ 0 < len ∧ len ≤ cap ∧ cap ≤ maxLen ∧ b < w.heap.size ∧ ∀ i, i < len → w.cell? ⟨b, off + i, none⟩ = some (.int .i64 (xs.getD i 0)))
theorem Ints.below {w w' : World} {s : Value} {xs : List Int} (h : Ints w s xs) (hb : Below w.heap.size w w') : Ints w' s xs := by
  rcases h with h | ⟨b, off, len, cap, hs, hl, h0, hc, hm, hbl, hcell⟩
  · exact .inl h
  · exact .inr ⟨b, off, len, cap, hs, hl, h0, hc, hm, Nat.lt_of_lt_of_le hbl hb.size, fun i hi => (hb.cell (p := ⟨b, off + i, none⟩) hbl).trans (hcell i hi)⟩
/-- The slice value s, of the call's own from block B on, holds the numbers xs. -/
def Own (w : World) (B : Nat) (s : Value) (xs : List Int) : Prop := w.ownsRow B 3 1 s xs.length (xs.map (Value.int .i64))
theorem Own.ints {w : World} {B : Nat} {s : Value} {xs : List Int} (h : Own w B s xs) : Ints w s xs := by
  obtain ⟨h1, h2⟩ := h
  rcases h2 with ⟨hv, hn⟩ | ⟨g, cap, cur, hv, hg, hh, hc, hm, hs, ht⟩
  · exact .inl ⟨none, 0, by rw [hv], by simpa using hn⟩
  · by_cases h0 : xs.length = 0
    · exact .inl ⟨some ⟨g, 0, none⟩, cap, by rw [hv, h0], by simpa using h0⟩
    · refine .inr ⟨g, 0, xs.length, cap, hv, rfl, by omega, hc, hm, ?_, fun i hi => ?_⟩
      · rcases Nat.lt_or_ge g w.heap.size with q | q
        · exact q
        · rw [Array.getElem?_eq_none q] at hh; cases hh
      · have h' : w.ownsRow B 3 1 (.slice (some ⟨g, 0, none⟩) xs.length cap) xs.length (xs.map (Value.int .i64)) := ⟨h1, .inr ⟨g, cap, cur, rfl, hg, hh, hc, hm, hs, ht⟩⟩
        have := World.ownsRow.cellAt h' i (by omega)
        rw [Nat.zero_add, this]
        simp [List.getD, List.getElem?_eq_getElem hi]
theorem Own.below {w w' : World} {B : Nat} {s : Value} {xs : List Int} (h : Own w B s xs) (hb : Below w.heap.size w w') : Own w' B s xs := by
  obtain ⟨h1, h2⟩ := h
  refine ⟨h1, ?_⟩
  rcases h2 with h2 | ⟨g, cap, cur, hv, hg, hh, r⟩
  · exact .inl h2
  · have q : g < w.heap.size := by
      rcases Nat.lt_or_ge g w.heap.size with q | q
      · exact q
      · rw [Array.getElem?_eq_none q] at hh; cases hh
    exact .inr ⟨g, cap, cur, hv, hg, (hb.block g q).trans hh, r⟩
theorem Own.mono {w : World} {B B' : Nat} {s : Value} {xs : List Int} (h : Own w B s xs) (hB : B' ≤ B) : Own w B' s xs := by
  obtain ⟨h1, h2⟩ := h
  refine ⟨h1, ?_⟩
  rcases h2 with h2 | ⟨g, cap, cur, hv, hg, r⟩
  · exact .inl h2
  · exact .inr ⟨g, cap, cur, hv, Nat.le_trans hB hg, r⟩
theorem infoInt : (Tryz.prog.info? 3).map (fun i => (i.zero, i.size, i.bytes)) = some (some (.int .i64 0), 1, 8) := by kernel_rfl
theorem World.ownsRow.lt {w : World} {B : Nat} {E : TypeId} {size g n cap : Nat} {xs : List Value} (h : w.ownsRow B E size (.slice (some ⟨g, 0, none⟩) n cap) n xs) : g < w.heap.size := by
  rcases h.2 with ⟨h', _⟩ | ⟨g', cap', cur, h', _, hh, _⟩
  · simp at h'
  · simp only [Value.slice.injEq, Option.some.injEq, Addr.mk.injEq, and_true, true_and] at h'
    obtain ⟨rfl, rfl⟩ := h'
    rcases Nat.lt_or_ge g w.heap.size with q | q
    · exact q
    · rw [Array.getElem?_eq_none q] at hh; cases hh
/-- The call hands back a slice of its own that holds xs. -/
def GivesOwn (xs : List Int) (w : World) (e : Ending) (w' : World) : Prop := ∃ a len cap, e = .returned (.slice a len cap) ∧ Own w' w.heap.size (.slice a len cap) xs ∧ Below w.heap.size w w'
/-! ### numbers in base 10000: no program in sight -/
def dgF : Nat → Nat → List Int
  | 0, _ => []
  | f + 1, n => if n = 0 then [] else ((n % 10000 : Nat) : Int) :: dgF f (n / 10000)
/-- The canonical digits of a number, the last one first. -/
def dg (n : Nat) : List Int := dgF n n
theorem dgF_fuel : ∀ (f g n : Nat), n ≤ f → n ≤ g → dgF f n = dgF g n := by
  intro f
  induction f with
  | zero => intro g n h1 h2; obtain rfl : n = 0 := by omega
            cases g <;> simp [dgF]
  | succ f ih =>
    intro g n h1 h2
    cases g with
    | zero => obtain rfl : n = 0 := by omega
              simp [dgF]
    | succ g =>
      simp only [dgF]
      by_cases h : n = 0
      · simp [h]
      · rw [if_neg h, if_neg h, ih g (n / 10000) (by omega) (by omega)]
theorem dg_zero : dg 0 = [] := rfl
theorem dg_pos {n : Nat} (h : n ≠ 0) : dg n = ((n % 10000 : Nat) : Int) :: dg (n / 10000) := by
  unfold dg
  cases n with
  | zero => exact absurd rfl h
  | succ m =>
    simp only [dgF]
    rw [if_neg h, dgF_fuel m ((m + 1) / 10000) ((m + 1) / 10000) (by omega) (by omega)]
def val : List Int → Int
  | [] => 0
  | x :: xs => x + 10000 * val xs
theorem val_append (xs ys : List Int) : val (xs ++ ys) = val xs + 10000 ^ xs.length * val ys := by
  induction xs with
  | nil => simp [val]
  | cons x xs ih => simp only [List.cons_append, val, ih, List.length_cons, Int.pow_succ]; grind
def InR (xs : List Int) : Prop := ∀ x ∈ xs, 0 ≤ x ∧ x ≤ 9999
theorem InR.tail {x : Int} {xs : List Int} (h : InR (x :: xs)) : InR xs := fun y hy => h y (List.mem_cons_of_mem _ hy)
theorem InR.head {x : Int} {xs : List Int} (h : InR (x :: xs)) : 0 ≤ x ∧ x ≤ 9999 := h x (List.mem_cons_self)
theorem val_nonneg {xs : List Int} (h : InR xs) : 0 ≤ val xs := by
  induction xs with
  | nil => exact Int.le_refl _
  | cons x xs ih => have := ih h.tail; have := h.head; simp only [val]; omega
theorem val_lt {xs : List Int} (h : InR xs) : val xs < 10000 ^ xs.length := by
  induction xs with
  | nil => simp [val]
  | cons x xs ih => have := ih h.tail; have := h.head; simp only [val, List.length_cons, Int.pow_succ]; omega
theorem inR_dgF : ∀ (f n : Nat), InR (dgF f n) := by
  intro f
  induction f with
  | zero => intro n x hx; simp [dgF] at hx
  | succ f ih =>
    intro n x hx
    simp only [dgF] at hx
    split at hx
    · simp at hx
    · rcases List.mem_cons.1 hx with rfl | hx
      · omega
      · exact ih _ x hx
theorem inR_dg (n : Nat) : InR (dg n) := inR_dgF n n
theorem val_dg (n : Nat) : val (dg n) = n := by
  induction n using Nat.strongRecOn with
  | ind n ih =>
    by_cases h : n = 0
    · subst h; rfl
    · rw [dg_pos h, val, ih (n / 10000) (by omega)]; omega
/-- No leading zero. -/
def Can (xs : List Int) : Prop := InR xs ∧ xs.getLast? ≠ some 0
theorem dg_val {xs : List Int} (h : Can xs) : dg (val xs).toNat = xs := by
  induction xs with
  | nil => rfl
  | cons x xs ih =>
    obtain ⟨hr, hl⟩ := h
    have h0 := val_nonneg hr.tail
    have hx := hr.head
    have hc : Can xs := ⟨hr.tail, by
      cases xs with
      | nil => simp
      | cons y ys => rwa [List.getLast?_cons_cons] at hl⟩
    have ih := ih hc
    have hne : (val (x :: xs)).toNat ≠ 0 := by
      simp only [val]
      intro h
      have h1 : x = 0 := by omega
      have h2 : val xs = 0 := by omega
      rw [h2] at ih
      have h3 : xs = [] := by rw [← ih]; rfl
      subst h3; subst h1
      simp at hl
    rw [dg_pos hne]
    have e1 : (((val (x :: xs)).toNat % 10000 : Nat) : Int) = x := by simp only [val]; omega
    have e2 : (val (x :: xs)).toNat / 10000 = (val xs).toNat := by simp only [val]; omega
    rw [e1, e2, ih]
theorem can_dg (n : Nat) : Can (dg n) := by
  refine ⟨inR_dg n, ?_⟩
  induction n using Nat.strongRecOn with
  | ind n ih =>
    by_cases h : n = 0
    · subst h; simp [dg_zero]
    · rw [dg_pos h]
      by_cases h2 : n / 10000 = 0
      · rw [h2, dg_zero]; simp; omega
      · have := ih (n / 10000) (by omega)
        rw [dg_pos h2] at this ⊢
        rwa [List.getLast?_cons_cons]
theorem dg_len_le {n k : Nat} (h : n < 10000 ^ k) : (dg n).length ≤ k := by
  induction k generalizing n with
  | zero => simp at h; subst h; simp [dg_zero]
  | succ k ih =>
    by_cases h0 : n = 0
    · subst h0; simp [dg_zero]
    · rw [dg_pos h0, List.length_cons]
      have := ih (n := n / 10000) (by rw [Nat.div_lt_iff_lt_mul (by decide)]; rwa [Nat.pow_succ] at h)
      omega
theorem dg_len_ge {n k : Nat} (h : 10000 ^ k ≤ n) : k < (dg n).length := by
  induction k generalizing n with
  | zero => have h0 : n ≠ 0 := by simp at h; omega
            rw [dg_pos h0]; simp
  | succ k ih =>
    have h0 : n ≠ 0 := by have := Nat.pow_pos (n := k + 1) (show 0 < 10000 by decide); omega
    rw [dg_pos h0, List.length_cons]
    have := ih (n := n / 10000) (by rw [Nat.le_div_iff_mul_le (by decide)]; rwa [Nat.pow_succ] at h)
    omega
theorem dg_len_iff (n k : Nat) : (dg n).length ≤ k ↔ n < 10000 ^ k := by
  constructor
  · intro h
    rcases Nat.lt_or_ge n (10000 ^ k) with g | g
    · exact g
    · have := dg_len_ge g; omega
  · exact dg_len_le
theorem dg_nil (n : Nat) : dg n = [] ↔ n = 0 := by
  constructor
  · intro h; have := val_dg n; rw [h] at this; simp [val] at this; omega
  · rintro rfl; rfl
/-- Zeros at the end count nothing. -/
theorem val_zero_end (xs : List Int) : val (xs ++ [0]) = val xs := by rw [val_append]; simp [val]
/-! ### wholes: a sign and digits -/
/-- The call hands back a whole whose digits are of its own. -/
def GivesW (neg : Bool) (xs : List Int) (w : World) (e : Ending) (w' : World) : Prop := ∃ a len cap, e = .returned (.agg #[.bool neg, .slice a len cap]) ∧ Own w' w.heap.size (.slice a len cap) xs ∧ Below w.heap.size w w'
theorem Own.set {w : World} {B : Nat} {s : Value} {xs : List Int} {p : Addr} (h : Own w B s xs) (hp : p.block < B) (u : Value) : Own (w.setCell p u) B s xs := ownsRow_setCell_below h hp u
theorem Own.drew {w : World} {B : Nat} {s : Value} {xs : List Int} (h : Own w B s xs) : Own w.drew B s xs := h
/-! ### slices of ints that the call makes -/
theorem gives_of_quiet {v : Value} {w : World} {e : Ending} {w' : World} (h : Quiet v w e w') : Gives v w e w' := by
  obtain ⟨he, n, hw⟩ := h
  subst hw
  exact ⟨he, below_drewN (Below.refl _ _) n⟩
theorem Own.alloc {w : World} {B : Nat} {s : Value} {xs : List Int} (h : Own w B s xs) (o : Obj) : Own (w.alloc o) B s xs := World.ownsRow.alloc h o
theorem Own.nil (w : World) (B : Nat) : Own w B (.slice none 0 0) [] := World.ownsRow_nil _ _ _ _
/-- The world under one name. -/
theorem name_world {P : Program} {c : Code} {Q : Exit → Act → World → Prop} {a : Act} {w : World} (h : ∀ W, W = w → c.wp P Q a W) : c.wp P Q a w := h w rfl
theorem Own.slice {w : World} {B : Nat} {s : Value} {xs : List Int} (h : Own w B s xs) : ∃ a cap, s = .slice a xs.length cap := by
  obtain ⟨_, h2⟩ := h
  rcases h2 with ⟨hv, hn⟩ | ⟨g, cap, cur, hv, _⟩
  · exact ⟨none, 0, by rw [hv, hn]⟩
  · exact ⟨_, cap, hv⟩
/-- append(out, y) for a slice of the call's own. -/
theorem wpl_app {ops : Array Oper} {rest : List Oper} {o : Oper} {a : Act} {Q : Exit → Act → World → Prop} {W w : World} (hgd : o.guard = none) (s x : Operand)
    (ho : o.op = .call { callee := .builtin .append, args := #[s, x], argTypes := #[44, 44] }) (B : Nat) (v : Value) (xs : List Int) (hs : a.eval s = v) (hown : Own w B v xs)
    (ad : Addr) (c : Nat) (y : Int) (hx : a.eval x = .slice (some ad) 1 c) (hc : w.cell? ad = some (.int .i64 y)) (hlen : xs.length ≤ 1000000000000) (hb : Below B W w) (hB : B ≤ w.heap.size)
    (h : ∀ a' cap' w', Own w' B (.slice a' (xs.length + 1) cap') (xs ++ [y]) → Below B W w' → B ≤ w'.heap.size → wpList Tryz.prog ops Q rest (a.put o.dst (.slice a' (xs.length + 1) cap')) w') : wpList Tryz.prog ops Q (o :: rest) a w := by
  obtain ⟨i0, hi, hz0, hz1, hz2⟩ := info_parts infoInt
  refine wpList_append_own w hgd s x 44 ho B 3 i0 (.int .i64 0) 1 8 Tryz.underlying44 hi hz0 hz1 hz2 rfl (by decide) v xs.length (xs.map (Value.int .i64)) hs hown ad 1 c [.int .i64 y] hx rfl ?_ ?_ (by unfold maxLen; omega) (by omega) hB ?_
  · intro j u hj
    match j, hj with
    | 0, hj => simp at hj; subst hj; simpa [Addr.add] using hc
  · intro u hu; simp at hu; subst hu; rfl
  · intro v' w' h1 h2 h3
    have ho' : Own w' B v' (xs ++ [y]) := by
      unfold Own
      simpa using h1
    obtain ⟨a', cap', rfl⟩ := ho'.slice
    simp only [List.length_append, List.length_cons, List.length_nil] at ho' ⊢
    refine h a' cap' w' ho' (hb.grown h2 hB ?_) (Nat.le_trans hB h2.size)
    intro k hk
    exact (_root_.Go.World.ownsRow.lt hown k hk).1
theorem Ints.cell {w : World} {a : Option Addr} {len cap : Nat} {xs : List Int} (h : Ints w (.slice a len cap) xs) : xs.length = len ∧ len ≤ 9223372036854775807 ∧ ∀ i, i < len → ∃ b off, a = some ⟨b, off, none⟩ ∧ b < w.heap.size ∧ w.cell? ⟨b, off + i, none⟩ = some (.int .i64 (xs.getD i 0)) := by
  rcases h with ⟨a', cap', hs, rfl⟩ | ⟨b, off, len', cap', hs, hl, h0, hc, hm, hbl, hcell⟩
  · obtain ⟨rfl, rfl, rfl⟩ := by simpa using hs
    exact ⟨rfl, by omega, fun i h => by omega⟩
  · obtain ⟨rfl, rfl, rfl⟩ := by simpa using hs
    exact ⟨hl, by unfold maxLen at hm; omega, fun i h => ⟨b, off, rfl, hbl, hcell i h⟩⟩
theorem ownsRow_below {w w' : World} {B : Nat} {E : TypeId} {size : Nat} {v : Value} {n : Nat} {xs : List Value} (h : w.ownsRow B E size v n xs) (hb : Below w.heap.size w w') : w'.ownsRow B E size v n xs := by
  obtain ⟨h2, h3⟩ := h
  refine ⟨h2, ?_⟩
  rcases h3 with h3 | ⟨g, cap, cur, hv, hg, hh, r⟩
  · exact .inl h3
  · have hlt : g < w.heap.size := by
      rcases Nat.lt_or_ge g w.heap.size with q | q
      · exact q
      · rw [Array.getElem?_eq_none q] at hh; cases hh
    exact .inr ⟨g, cap, cur, hv, hg, (hb.block g hlt).trans hh, r⟩
theorem ownsRow_mono {w : World} {B B' : Nat} {E : TypeId} {size : Nat} {v : Value} {n : Nat} {xs : List Value} (h : w.ownsRow B E size v n xs) (hB : B' ≤ B) : w.ownsRow B' E size v n xs := by
  obtain ⟨h2, h3⟩ := h
  refine ⟨h2, ?_⟩
  rcases h3 with h3 | ⟨g, cap, cur, hv, hg, r⟩
  · exact .inl h3
  · exact .inr ⟨g, cap, cur, hv, Nat.le_trans hB hg, r⟩
theorem ownsRow_slice {w : World} {B : Nat} {E : TypeId} {size : Nat} {v : Value} {n : Nat} {xs : List Value} (h : w.ownsRow B E size v n xs) : ∃ a cap, v = .slice a n cap := by
  rcases h.2 with ⟨hv, hn⟩ | ⟨g, cap, cur, hv, _⟩
  · exact ⟨none, 0, by rw [hv, hn]⟩
  · exact ⟨_, cap, hv⟩
/-- Nothing but block g may have changed. -/
structure Only (g : Option Nat) (w w' : World) : Prop where
  os : w'.os = w.os
  tape : w'.tape = w.tape
  output : w'.output = w.output
  size : w.heap.size ≤ w'.heap.size
  block : ∀ k, k < w.heap.size → some k ≠ g → w'.heap[k]? = w.heap[k]?
theorem Only.refl (g : Option Nat) (w : World) : Only g w w := ⟨rfl, rfl, rfl, Nat.le_refl _, fun _ _ _ => rfl⟩
theorem Only.trans {g : Option Nat} {a b c : World} (h : Only g a b) (k : Only g b c) : Only g a c :=
  ⟨k.os.trans h.os, k.tape.trans h.tape, k.output.trans h.output, Nat.le_trans h.size k.size, fun i hi hg => (k.block i (Nat.lt_of_lt_of_le hi h.size) hg).trans (h.block i hi hg)⟩
theorem Only.of_grown {g : Option Nat} {a b : World} (h : a.grownBy b g) : Only g a b := ⟨h.os, h.tape, h.output, h.size, h.block⟩
theorem Only.drew {g : Option Nat} {a b : World} (h : Only g a b) : Only g a b.drew := ⟨h.os, h.tape, h.output, h.size, h.block⟩
theorem Only.drewN {g : Option Nat} {a b : World} (h : Only g a b) (n : Nat) : Only g a (b.drewN n) := by
  refine ⟨?_, ?_, ?_, ?_, ?_⟩ <;> first | exact h.os | exact h.tape | exact h.output | exact h.size | exact h.block
theorem Only.below {g : Option Nat} {a b : World} {B : Nat} (h : Only g a b) (hB : B ≤ a.heap.size) (hg : ∀ k, g = some k → B ≤ k) : Below B a b :=
  ⟨h.os, h.tape, h.output, h.size, fun k hk => h.block k (by omega) (fun e => by have := hg k e.symm; omega)⟩
theorem ownsRow_only {w w' : World} {B : Nat} {E : TypeId} {size : Nat} {v : Value} {n : Nat} {xs : List Value} {g : Option Nat} (h : w.ownsRow B E size v n xs) (ho : Only g w w') (hne : v.ownBlock = none ∨ v.ownBlock ≠ g) : w'.ownsRow B E size v n xs := by
  obtain ⟨h2, h3⟩ := h
  refine ⟨h2, ?_⟩
  rcases h3 with h3 | ⟨b, cap, cur, hv, hb, hh, r⟩
  · exact .inl h3
  · have hlt : b < w.heap.size := by
      rcases Nat.lt_or_ge b w.heap.size with q | q
      · exact q
      · rw [Array.getElem?_eq_none q] at hh; cases hh
    refine .inr ⟨b, cap, cur, hv, hb, (ho.block b hlt ?_).trans hh, r⟩
    subst hv
    simpa [Value.ownBlock] using hne
/-! ### ratios: two wholes -/
theorem Ints.len {w : World} {a : Option Addr} {len cap : Nat} {xs : List Int} (h : Ints w (.slice a len cap) xs) : xs.length = len ∧ len ≤ 9223372036854775807 := by
  rcases h with ⟨a', cap', hs, rfl⟩ | ⟨b, off, len', cap', hs, hl, h0, hc, hm, _⟩
  · obtain ⟨rfl, rfl, rfl⟩ := by simpa using hs
    exact ⟨rfl, by omega⟩
  · obtain ⟨rfl, rfl, rfl⟩ := by simpa using hs
    exact ⟨hl, by unfold maxLen at hm; omega⟩
/-! ### wholes are compared -/
def cmpI (x y : Int) : Int := if x < y then -1 else if y < x then 1 else 0
theorem cmpI_lt {x y : Int} (h : x < y) : cmpI x y = -1 := by unfold cmpI; rw [if_pos h]
theorem cmpI_gt {x y : Int} (h : y < x) : cmpI x y = 1 := by unfold cmpI; rw [if_neg (by omega), if_pos h]
theorem cmpI_eq {x y : Int} (h : x = y) : cmpI x y = 0 := by unfold cmpI; rw [if_neg (by omega), if_neg (by omega)]
theorem val_ht (xs : List Int) : val xs = xs.getD 0 0 + 10000 * val xs.tail := by cases xs <;> simp [val]
theorem getD_tl (xs : List Int) (j : Nat) : xs.getD (j + 1) 0 = xs.tail.getD j 0 := by cases xs <;> simp
theorem InR.tl {xs : List Int} (h : InR xs) : InR xs.tail := fun x hx => h x (List.mem_of_mem_tail hx)
theorem InR.at {xs : List Int} (h : InR xs) (i : Nat) : 0 ≤ xs.getD i 0 ∧ xs.getD i 0 ≤ 9999 := by
  by_cases hi : i < xs.length
  · simp only [List.getD, List.getElem?_eq_getElem hi, Option.getD_some]; exact h _ (List.getElem_mem hi)
  · simp only [List.getD, List.getElem?_eq_none (show xs.length ≤ i by omega), Option.getD_none]; omega
theorem val_same (n : Nat) : ∀ (xs ys : List Int), xs.length + ys.length ≤ n → (∀ j, xs.getD j 0 = ys.getD j 0) → val xs = val ys := by
  induction n with
  | zero =>
    intro xs ys h _
    have e1 : xs = [] := List.length_eq_zero_iff.1 (by omega)
    have e2 : ys = [] := List.length_eq_zero_iff.1 (by omega)
    rw [e1, e2]
  | succ n ih =>
    intro xs ys h he
    by_cases h0 : xs.length + ys.length = 0
    · have e1 : xs = [] := List.length_eq_zero_iff.1 (by omega)
      have e2 : ys = [] := List.length_eq_zero_iff.1 (by omega)
      rw [e1, e2]
    · rw [val_ht xs, val_ht ys, he 0, ih xs.tail ys.tail (by simp; omega) (fun j => by rw [← getD_tl, ← getD_tl]; exact he (j + 1))]
theorem val_less (i : Nat) : ∀ (xs ys : List Int), InR xs → InR ys → (∀ j, i < j → xs.getD j 0 = ys.getD j 0) → xs.getD i 0 < ys.getD i 0 → val xs < val ys := by
  induction i with
  | zero =>
    intro xs ys hx hy he hl
    have := val_same _ xs.tail ys.tail (Nat.le_refl _) (fun j => by rw [← getD_tl, ← getD_tl]; exact he (j + 1) (by omega))
    rw [val_ht xs, val_ht ys, this]; omega
  | succ i ih =>
    intro xs ys hx hy he hl
    have := ih xs.tail ys.tail hx.tl hy.tl (fun j hj => by rw [← getD_tl, ← getD_tl]; exact he (j + 1) (by omega)) (by rw [← getD_tl, ← getD_tl]; exact hl)
    have a := hx.at 0
    have b := hy.at 0
    rw [val_ht xs, val_ht ys]; omega
theorem val_ge {xs : List Int} (h : Can xs) (h0 : xs ≠ []) : 10000 ^ (xs.length - 1) ≤ val xs := by
  have e := dg_val h
  have hn := val_nonneg h.1
  have h1 : ¬ (dg (val xs).toNat).length ≤ xs.length - 1 := by
    rw [e]; have : xs.length ≠ 0 := fun g => h0 (List.length_eq_zero_iff.1 g); omega
  rw [dg_len_iff] at h1
  have h2 : ((10000 ^ (xs.length - 1) : Nat) : Int) ≤ ((val xs).toNat : Int) := by omega
  rw [Int.natCast_pow] at h2
  simp at h2
  omega
theorem val_len {xs ys : List Int} (hx : Can xs) (hy : Can ys) (h : xs.length < ys.length) : val xs < val ys := by
  have h1 := val_lt hx.1
  have h2 := val_ge hy (fun g => by rw [g] at h; simp at h)
  have h3 : (10000 : Int) ^ xs.length ≤ 10000 ^ (ys.length - 1) := by
    have : xs.length ≤ ys.length - 1 := by omega
    generalize ys.length - 1 = n at this
    induction this with
    | refl => exact Int.le_refl _
    | @step m _ ih =>
      refine Int.le_trans ih ?_
      rw [Int.pow_succ]
      have h0 : (0 : Int) ≤ 10000 ^ m := Int.pow_nonneg (by omega)
      omega
  omega
theorem isNaN_any (x : Int) (w : World) : Calls Tryz.prog 141 #[.int .i64 x] w (Same (.bool false) w) := by
  have h : (x != x) = false := by simp
  go_enter Tryz.func141, Tryz.ntmps141
  go_wp2
  go_ret
  exact same rfl
theorem cmpCompare_any (x y : Int) (w : World) : Calls Tryz.prog 130 #[.int .i64 x, .int .i64 y] w (Same (.int .i64 (cmpI x y)) w) := by
  have HN := Lib.hid (fun x w => isNaN_any x w)
  rcases Int.lt_trichotomy x y with h | h | h
  · have E := Lib.hid (cmpI_lt h)
    go_enter Tryz.func130, Tryz.ntmps130
    go_wp2_with (first | (go_at_call 141; refine (HN.out _ _).mono ?_; rintro e w1 ⟨rfl, rfl⟩))
    go_ret; exact same (vint E.out.symm)
  · have E := Lib.hid (cmpI_eq h)
    have h1 : ¬ x < y := by omega
    have h2 : ¬ y < x := by omega
    clear h
    go_enter Tryz.func130, Tryz.ntmps130
    go_wp2_with (first | (go_at_call 141; refine (HN.out _ _).mono ?_; rintro e w1 ⟨rfl, rfl⟩))
    go_ret; exact same (vint E.out.symm)
  · have E := Lib.hid (cmpI_gt h)
    go_enter Tryz.func130, Tryz.ntmps130
    go_wp2_with (first | (go_at_call 141; refine (HN.out _ _).mono ?_; rintro e w1 ⟨rfl, rfl⟩))
    go_ret; exact same (vint E.out.symm)
set_option maxHeartbeats 2000000 in
theorem compareSizes_any (n1 n2 : Bool) (a a2 : Option Addr) (len cap len2 cap2 : Nat) (xs ys : List Int) (w : World) (hx : Ints w (.slice a len cap) xs) (hy : Ints w (.slice a2 len2 cap2) ys) (rx : Can xs) (ry : Can ys) (lx : xs.length ≤ 1000000) (ly : ys.length ≤ 1000000) :
    Calls Tryz.prog 137 #[.agg #[.bool n1, .slice a len cap], .agg #[.bool n2, .slice a2 len2 cap2]] w (Gives (.int .i64 (cmpI (val xs) (val ys))) w) := by
  obtain ⟨h1, h2, h3⟩ := hx.cell
  obtain ⟨k1, k2, k3⟩ := hy.cell
  have HK := Lib.hid (fun x y w => cmpCompare_any x y w)
  rcases Nat.lt_trichotomy len len2 with hl | hl | hl
  · have E := Lib.hid (cmpI_lt (val_len rx ry (by omega)))
    have hk := fun w => HK.out (len : Int) (len2 : Int) w
    rw [cmpI_lt (show (len : Int) < len2 by omega)] at hk
    have HKK := Lib.hid hk
    clear hx hy h3 k3 hk h1 k1
    go_enter Tryz.func137, Tryz.ntmps137
    go_wp2_with (first | (go_at_call 130; refine (HKK.out _).mono ?_; rintro e w1 ⟨rfl, rfl⟩))
    go_ret
    exact gives (vint E.out.symm) gr
  · subst hl
    have HC := Lib.hid h3; have HC2 := Lib.hid k3
    have HLT := Lib.hid (fun i he hl => val_less i xs ys rx.1 ry.1 he hl)
    have HGT := Lib.hid (fun i he hl => val_less i ys xs ry.1 rx.1 he hl)
    have HEQ := Lib.hid (val_same _ xs ys (Nat.le_refl _))
    have HS := Lib.hid (show ∀ j, len ≤ j → xs.getD j 0 = ys.getD j 0 from fun j hj => by
      simp [List.getD, List.getElem?_eq_none (show xs.length ≤ j by omega), List.getElem?_eq_none (show ys.length ≤ j by omega)])
    have hlb : len ≤ 1000000 := by omega
    generalize val xs = X at *
    generalize val ys = Y at *
    clear hx hy rx ry h1 k1 h3 k3 h2 k2
    go_enter Tryz.func137, Tryz.ntmps137
    go_wp2
    refine name_world (fun W1 hW1 => ?_)
    have c0 : W1.cell? ⟨w.heap.size, 1, none⟩ = some (.slice a len cap) := by rw [hW1]; simp
    have c1 : W1.cell? ⟨w.heap.size + 1, 1, none⟩ = some (.slice a2 len cap2) := by rw [hW1]; simp
    have hB1 : Below w.heap.size w W1 := by rw [hW1]; repeat' (first | (with_reducible first | exact bq1 _ _ | assumption | refine bq2 ?_ ?_ _ | refine bq3 ?_ ?_ _ | refine bq4 ?_ | refine bq5 ?_ _) | (apply bthen2; (with_reducible assumption)) | go_size)
    clear hW1
    go_loopw [5] (fun v5 wr => ∃ k n : Nat, k ≤ len ∧ v5 = .int .i64 ((k : Int) - 1) ∧ Hid (∀ j, k ≤ j → xs.getD j 0 = ys.getD j 0) ∧ wr = W1.drewN (0 + n)) (fun v5 _ => (intOf v5 + 1).toNat)
    case atStart => exact ⟨len, 0, Nat.le_refl _, rfl, HS, rfl⟩
    case round =>
      obtain ⟨k, n, hk, rfl, HJ, rfl⟩ := hrel
      cases k with
      | zero =>
        have E := Lib.hid (cmpI_eq (HEQ.out (fun j => HJ.out j (by omega))))
        go_wp2
        go_ret
        exact gives (vint E.out.symm) (by repeat (first | exact hB1 | apply below_drewN))
      | succ k =>
        have e0 : ((k + 1 : Nat) : Int) - 1 = (k : Int) := by omega
        rw [e0]
        obtain ⟨b, off, ha, hbl, p0⟩ := HC.out k (by omega)
        obtain ⟨b', off', ha', hbl', q0⟩ := HC2.out k (by omega)
        subst ha ha'
        have p1 : W1.cell? ⟨b, off + k, none⟩ = some (.int .i64 (xs.getD k 0)) := (hB1.cell (p := ⟨b, off + k, none⟩) hbl).trans p0
        have q1 : W1.cell? ⟨b', off' + k, none⟩ = some (.int .i64 (ys.getD k 0)) := (hB1.cell (p := ⟨b', off' + k, none⟩) hbl').trans q0
        have i1 : (0 : Int) ≤ (k : Int) := by omega
        have i2 : (k : Int) < (len : Int) := by omega
        rcases Int.lt_trichotomy (xs.getD k 0) (ys.getD k 0) with h | h | h
        · have E := Lib.hid (cmpI_lt (HLT.out k (fun j hj => HJ.out j (by omega)) h))
          have hk := fun w => HK.out (xs.getD k 0) (ys.getD k 0) w
          rw [cmpI_lt h] at hk
          generalize xs.getD k 0 = A at *
          generalize ys.getD k 0 = B at *
          have HKK := Lib.hid hk
          have hne : (A != B) = true := by simp; omega
          clear hk p0 q0
          go_wp2
          go_quiet (fail)
          go_wp2
          refine name_world (fun W2 hW2 => ?_)
          have e0 : W2.cell? ⟨w.heap.size, 1, none⟩ = some (.slice (some ⟨b, off, none⟩) len cap) := by rw [hW2]; simpa using c0
          have e1 : W2.cell? ⟨w.heap.size + 1, 1, none⟩ = some (.slice (some ⟨b', off', none⟩) len cap2) := by rw [hW2]; simpa using c1
          have r0 : W2.cell? ⟨b, off + k, none⟩ = some (.int .i64 A) := by rw [hW2]; simpa using p1
          have r1 : W2.cell? ⟨b', off' + k, none⟩ = some (.int .i64 B) := by rw [hW2]; simpa using q1
          have hB2 : Below w.heap.size w W2 := by rw [hW2]; repeat (first | exact hB1 | apply below_drewN)
          clear hW2 c0 c1 p1 q1
          go_quiet ((go_at_call 130; exact qs (HKK.out _)))
          go_wp2
          go_ret
          exact gives (vint E.out.symm) (by repeat (first | exact hB2 | apply below_drewN))
        · have HJ2 := Lib.hid (show ∀ j, k ≤ j → xs.getD j 0 = ys.getD j 0 from fun j hj => by
            by_cases e : j = k
            · subst e; exact h
            · exact HJ.out j (by omega))
          rw [← h] at q1
          generalize xs.getD k 0 = A at *
          have hne : (A != A) = false := by simp
          clear h p0 q0
          go_wp2
          go_quiet (fail)
          go_wp2
          go_roundw
          case rel => exact ⟨k, _, by omega, rfl, HJ2, by rw [Nat.zero_add]⟩
          case measure => first | (simp [intOf]; done) | (simp [intOf]; omega)
        · have E := Lib.hid (cmpI_gt (HGT.out k (fun j hj => (HJ.out j (by omega)).symm) h))
          have hk := fun w => HK.out (xs.getD k 0) (ys.getD k 0) w
          rw [cmpI_gt h] at hk
          generalize xs.getD k 0 = A at *
          generalize ys.getD k 0 = B at *
          have HKK := Lib.hid hk
          have hne : (A != B) = true := by simp; omega
          clear hk p0 q0
          go_wp2
          go_quiet (fail)
          go_wp2
          refine name_world (fun W2 hW2 => ?_)
          have e0 : W2.cell? ⟨w.heap.size, 1, none⟩ = some (.slice (some ⟨b, off, none⟩) len cap) := by rw [hW2]; simpa using c0
          have e1 : W2.cell? ⟨w.heap.size + 1, 1, none⟩ = some (.slice (some ⟨b', off', none⟩) len cap2) := by rw [hW2]; simpa using c1
          have r0 : W2.cell? ⟨b, off + k, none⟩ = some (.int .i64 A) := by rw [hW2]; simpa using p1
          have r1 : W2.cell? ⟨b', off' + k, none⟩ = some (.int .i64 B) := by rw [hW2]; simpa using q1
          have hB2 : Below w.heap.size w W2 := by rw [hW2]; repeat (first | exact hB1 | apply below_drewN)
          clear hW2 c0 c1 p1 q1
          go_quiet ((go_at_call 130; exact qs (HKK.out _)))
          go_wp2
          go_ret
          exact gives (vint E.out.symm) (by repeat (first | exact hB2 | apply below_drewN))
  · have E := Lib.hid (cmpI_gt (val_len ry rx (by omega)))
    have hk := fun w => HK.out (len : Int) (len2 : Int) w
    rw [cmpI_gt (show (len2 : Int) < len by omega)] at hk
    have HKK := Lib.hid hk
    clear hx hy h3 k3 hk h1 k1
    go_enter Tryz.func137, Tryz.ntmps137
    go_wp2_with (first | (go_at_call 130; refine (HKK.out _).mono ?_; rintro e w1 ⟨rfl, rfl⟩))
    go_ret
    exact gives (vint E.out.symm) gr
end Go.Proofs.YtjgdajeoeagggaaGreat
