import Derived.Test.YtelkmldmebdcgaaNumA
set_option linter.unusedSimpArgs false
set_option linter.unusedVariables false
namespace Go.Proofs.Ytelkmldmebdcgaa
open Go.RowKit
/-! ### divisors -/
theorem gcd_tmod (x y : Int) : Int.gcd y (x.tmod y) = Int.gcd x y := by
  show Nat.gcd y.natAbs (x.tmod y).natAbs = Nat.gcd x.natAbs y.natAbs
  rw [Int.natAbs_tmod, Nat.gcd_comm y.natAbs, ← Nat.gcd_rec, Nat.gcd_comm]
theorem tmod_lt (x y : Int) (h : y ≠ 0) : (x.tmod y).natAbs < y.natAbs := by
  rw [Int.natAbs_tmod]; exact Nat.mod_lt _ (by omega)

theorem gcd_any (a b : Int) (ha : -9223372036854775807 ≤ a) (ha' : a ≤ 9223372036854775807) (hb : -9223372036854775807 ≤ b) (hb' : b ≤ 9223372036854775807) (w : World) : Calls Try.prog 93 #[.int .i64 a, .int .i64 b] w (Quiet (.int .i64 (Int.gcd a b)) w) := by
  go_enter Try.func93, Try.ntmps93
  go_wp2
  go_loopw [0, 1] (fun v0 v1 wr => ∃ (x y : Int) (n : Nat), v0 = .int .i64 x ∧ v1 = .int .i64 y ∧ wr = w.drewN n ∧ Int.gcd x y = Int.gcd a b ∧ x.natAbs ≤ 9223372036854775807 ∧ y.natAbs ≤ 9223372036854775807) (fun _ v1 _ => (intOf v1).natAbs)
  case atStart => exact ⟨a, b, 0, rfl, rfl, rfl, rfl, by omega, by omega⟩
  case round =>
    obtain ⟨x, y, n, rfl, rfl, rfl, hg, hx, hy⟩ := hrel
    have HG := Lib.hid hg; clear hg
    by_cases h0 : y = 0
    · subst h0
      go_wp2
      go_ret
      refine quiet n (vint ?_)
      have := HG.out
      rw [Int.gcd_zero_right] at this
      omega
    · have h1 : (y == 0) = false := by simpa using h0
      have h2 := tmod_lt x y h0
      have h3 := gcd_tmod x y
      have H3 := Lib.hid h3; clear h3
      go_wp2
      go_quiet (fail)
      go_wp2
      go_roundw
      case rel => exact ⟨y, x.tmod y, _, rfl, rfl, World.drewN_drewN .., by rw [H3.out]; exact HG.out, by omega, by omega⟩
      case measure => exact h2

theorem bgCommon_any (a b : Int) (ha : 0 ≤ a) (hb : 0 ≤ b) (w : World) : Calls Try.prog 94 #[.int .i64 a, .int .i64 b] w (Same (.int .i64 (Int.gcd a b)) w) := by
  go_enter Try.func94, Try.ntmps94
  go_wp2
  go_loop [0, 1] (fun v0 v1 => ∃ (x y : Int), v0 = .int .i64 x ∧ v1 = .int .i64 y ∧ Int.gcd x y = Int.gcd a b ∧ 0 ≤ x ∧ 0 ≤ y) (fun _ v1 => (intOf v1).natAbs)
  case atStart => exact ⟨a, b, rfl, rfl, rfl, ha, hb⟩
  case round =>
    obtain ⟨x, y, rfl, rfl, hg, hx, hy⟩ := hrel
    have HG := Lib.hid hg; clear hg
    by_cases h0 : y = 0
    · subst h0
      go_wp2
      go_ret
      refine same (vint ?_)
      have := HG.out
      rw [Int.gcd_zero_right] at this
      omega
    · have hy1 : 0 < y := by omega
      have h1 : (y == 0) = false := by simpa using h0
      have h2 : x % y < y := Int.emod_lt_of_pos _ hy1
      have h3 : 0 ≤ x % y := Int.emod_nonneg _ h0
      have h4 : Int.gcd y (x % y) = Int.gcd x y := by rw [← Int.tmod_eq_emod_of_nonneg hx]; exact gcd_tmod x y
      have H4 := Lib.hid h4; clear h4
      go_wp2
      go_round
      case rel => exact ⟨y, x % y, rfl, rfl, by rw [H4.out]; exact HG.out, hy, h3⟩
      case measure => simp [intOf]; omega

/-! ### residues -/
theorem tmod_bd (a m : Int) (h : 1 ≤ m) : -m < a.tmod m ∧ a.tmod m < m := by
  have := tmod_lt a m (by omega)
  omega
theorem mod_mod (a m : Int) (h : 1 ≤ m) : (a.tmod m + m) % m = a % m := by
  rw [Int.add_emod_right]
  have e := Int.mul_tdiv_add_tmod a m
  have : a % m = (m * a.tdiv m + a.tmod m) % m := by rw [e]
  rw [this, Int.mul_add_emod_self_left]
theorem modulo_any (a m : Int) (h : 1 ≤ m) (h' : m ≤ 4000000000000000000) (w : World) : Calls Try.prog 126 #[.int .i64 a, .int .i64 m] w (Same (.int .i64 (a % m)) w) := by
  have h1 := (tmod_bd a m h).1
  have h2 := (tmod_bd a m h).2
  have h3 : (m == 0) = false := by simp; omega
  have h4 := Lib.hid (mod_mod a m h)
  go_enter Try.func126, Try.ntmps126
  go_wp2
  go_ret
  exact same (vint h4.out)

theorem tmod_bd' (a m : Int) (h : 1 ≤ m) : -m < a.tmod m ∧ a.tmod m < m := by
  have := tmod_lt a m (by omega)
  omega
theorem mod_mod' (a m : Int) (h : 1 ≤ m) : (a.tmod m + m) % m = a % m := by
  rw [Int.add_emod_right]
  have e := Int.mul_tdiv_add_tmod a m
  have : a % m = (m * a.tdiv m + a.tmod m) % m := by rw [e]
  rw [this, Int.mul_add_emod_self_left]
theorem mdMod_any (a m : Int) (h : 1 ≤ m) (h' : m ≤ 4000000000000000000) (w : World) : Calls Try.prog 107 #[.int .i64 a, .int .i64 m] w (Same (.int .i64 (a % m)) w) := by
  have h1 := (tmod_bd' a m h).1
  have h2 := (tmod_bd' a m h).2
  have h3 : (m == 0) = false := by simp; omega
  have h4 := Lib.hid (mod_mod' a m h)
  go_enter Try.func107, Try.ntmps107
  go_wp2
  go_ret
  exact same (vint h4.out)

def pw (a n p : Int) : Int := a ^ n.toNat % p
def PwInv (a n p o b k : Int) : Prop := 0 ≤ o ∧ o < p ∧ 0 ≤ b ∧ b < p ∧ 0 ≤ k ∧ k ≤ n ∧ (o * b ^ k.toNat) % p = pw a n p
theorem emod_pow (a p : Int) (n : Nat) : (a % p) ^ n % p = a ^ n % p := by
  induction n with
  | zero => simp
  | succ n ih => rw [Int.pow_succ, Int.pow_succ, Int.mul_emod, ih, Int.emod_emod, ← Int.mul_emod]
theorem pw_start {a n p : Int} (hp : 2 ≤ p) (hn : 0 ≤ n) : PwInv a n p 1 (a % p) n :=
  ⟨by omega, by omega, Int.emod_nonneg _ (by omega), Int.emod_lt_of_pos _ (by omega), hn, Int.le_refl _, by rw [Int.one_mul]; exact emod_pow a p _⟩
theorem pow_half (b : Int) (k : Nat) : b ^ k = (b * b) ^ (k / 2) * (if k % 2 = 1 then b else 1) := by
  have e : k = 2 * (k / 2) + k % 2 := by omega
  have h2 : ∀ j : Nat, b ^ (2 * j) = (b * b) ^ j := fun j => by rw [Int.pow_mul]; congr 1; rw [Int.pow_succ, Int.pow_succ]; simp
  by_cases h : k % 2 = 1
  · rw [if_pos h]; conv => lhs; rw [e, h, Int.pow_succ, h2]
  · rw [if_neg h]; have h0 : k % 2 = 0 := by omega
    conv => lhs; rw [e, h0, Nat.add_zero, h2]
    simp
theorem pw_odd {a n p o b k : Int} (h : PwInv a n p o b k) (hp : 2 ≤ p) (h1 : k % 2 = 1) : PwInv a n p (o * b % p) (b * b % p) (k / 2) := by
  obtain ⟨a1, a2, a3, a4, a5, a6, a7⟩ := h
  refine ⟨Int.emod_nonneg _ (by omega), Int.emod_lt_of_pos _ (by omega), Int.emod_nonneg _ (by omega), Int.emod_lt_of_pos _ (by omega), by omega, by omega, ?_⟩
  rw [← a7, pow_half b k.toNat, if_pos (by omega), Int.mul_emod, emod_pow, Int.emod_emod, ← Int.mul_emod]
  have e : (k / 2).toNat = k.toNat / 2 := by omega
  rw [e]; congr 1; rw [Int.mul_assoc, Int.mul_comm b]
theorem pw_even {a n p o b k : Int} (h : PwInv a n p o b k) (hp : 2 ≤ p) (h1 : k % 2 = 0) : PwInv a n p o (b * b % p) (k / 2) := by
  obtain ⟨a1, a2, a3, a4, a5, a6, a7⟩ := h
  refine ⟨a1, a2, Int.emod_nonneg _ (by omega), Int.emod_lt_of_pos _ (by omega), by omega, by omega, ?_⟩
  rw [← a7, pow_half b k.toNat, if_neg (by omega), Int.mul_emod, emod_pow, ← Int.mul_emod, Int.mul_one]
  have e : (k / 2).toNat = k.toNat / 2 := by omega
  rw [e]
theorem pw_end {a n p o b : Int} (h : PwInv a n p o b 0) : o = pw a n p := by
  obtain ⟨a1, a2, a3, a4, a5, a6, a7⟩ := h
  rw [← a7]; simp; exact (Int.emod_eq_of_lt a1 a2).symm
theorem sq_bd {x y p : Int} (hp : p ≤ 1000000000) (h1 : 0 ≤ x) (h2 : x < p) (h3 : 0 ≤ y) (h4 : y < p) : 0 ≤ x * y ∧ x * y ≤ 1000000000000000000 := by
  refine ⟨Int.mul_nonneg h1 h3, ?_⟩
  have := Int.mul_le_mul (show x ≤ 1000000000 by omega) (show y ≤ 1000000000 by omega) h3 (by omega)
  omega

theorem power_any (a n p : Int) (hn : 0 ≤ n) (hn' : n ≤ 4000000000000000000) (hp : 2 ≤ p) (hp' : p ≤ 1000000000) (w : World) : Calls Try.prog 104 #[.int .i64 a, .int .i64 n, .int .i64 p] w (Gives (.int .i64 (pw a n p)) w) := by
  have hp0 : (p == 0) = false := by simp; omega
  have e1 : (1 : Int) % p = 1 := Int.emod_eq_of_lt (by omega) (by omega)
  have hm1 : 1 ≤ p := by omega
  have hm2 : p ≤ 4000000000000000000 := by omega
  go_enter Try.func104, Try.ntmps104
  go_wp2
  go_quiet ((go_at_call 126; exact qs (modulo_any _ _ hm1 hm2 _)))
  go_wp2
  go_loop [7, 8, 1] (fun v7 v8 v1 => ∃ o b k : Int, v7 = .int .i64 o ∧ v8 = .int .i64 b ∧ v1 = .int .i64 k ∧ PwInv a n p o b k) (fun _ _ v1 => (intOf v1).toNat)
  case atStart => exact ⟨_, _, _, rfl, rfl, rfl, by first | exact pw_start hp hn | (rw [e1]; exact pw_start hp hn)⟩
  case round =>
    obtain ⟨o, b, k, rfl, rfl, rfl, hi⟩ := hrel
    have h1 := hi.1
    have h2 := hi.2.1
    have h3 := hi.2.2.1
    have h4 := hi.2.2.2.1
    have h5 := hi.2.2.2.2.1
    have h6 := hi.2.2.2.2.2.1
    have s1 := (sq_bd hp' h1 h2 h3 h4).1
    have s2 := (sq_bd hp' h1 h2 h3 h4).2
    have s3 := (sq_bd hp' h3 h4 h3 h4).1
    have s4 := (sq_bd hp' h3 h4 h3 h4).2
    by_cases h0 : 0 < k
    · by_cases ho : k % 2 = 1
      · have hb := pw_odd hi hp ho
        have hob : (k % 2 == 1) = true := by simpa using ho
        clear ho hi
        go_wp2
        go_round
        case rel => exact ⟨_, _, _, rfl, rfl, rfl, hb⟩
        case measure => simp [intOf]; omega
      · have hb := pw_even hi hp (by omega)
        have hob : (k % 2 == 1) = false := by simpa using ho
        clear ho hi
        go_wp2
        go_round
        case rel => exact ⟨_, _, _, rfl, rfl, rfl, hb⟩
        case measure => simp [intOf]; omega
    · obtain rfl : k = 0 := by omega
      have he := pw_end hi
      have HE := Lib.hid he; clear he hi
      go_wp2
      go_ret
      exact gives (vint HE.out) (below_drewN (Below.refl _ _) _)

theorem mdPower_any (a n p : Int) (hn : 0 ≤ n) (hn' : n ≤ 4000000000000000000) (hp : 2 ≤ p) (hp' : p ≤ 1000000000) (w : World) : Calls Try.prog 127 #[.int .i64 a, .int .i64 n, .int .i64 p] w (Gives (.int .i64 (pw a n p)) w) := by
  have hp0 : (p == 0) = false := by simp; omega
  have hm1 : 1 ≤ p := by omega
  have hm2 : p ≤ 4000000000000000000 := by omega
  go_enter Try.func127, Try.ntmps127
  go_wp2_with ((go_at_call 107; refine (mdMod_any _ _ hm1 hm2 _).mono ?_; rintro e w1 ⟨rfl, rfl⟩))
  go_loop [7, 8, 1] (fun v7 v8 v1 => ∃ o b k : Int, v7 = .int .i64 o ∧ v8 = .int .i64 b ∧ v1 = .int .i64 k ∧ PwInv a n p o b k) (fun _ _ v1 => (intOf v1).toNat)
  case atStart => exact ⟨_, _, _, rfl, rfl, rfl, by first | exact pw_start hp hn | (rw [e1]; exact pw_start hp hn)⟩
  case round =>
    obtain ⟨o, b, k, rfl, rfl, rfl, hi⟩ := hrel
    have h1 := hi.1
    have h2 := hi.2.1
    have h3 := hi.2.2.1
    have h4 := hi.2.2.2.1
    have h5 := hi.2.2.2.2.1
    have h6 := hi.2.2.2.2.2.1
    have s1 := (sq_bd hp' h1 h2 h3 h4).1
    have s2 := (sq_bd hp' h1 h2 h3 h4).2
    have s3 := (sq_bd hp' h3 h4 h3 h4).1
    have s4 := (sq_bd hp' h3 h4 h3 h4).2
    by_cases h0 : 0 < k
    · by_cases ho : k % 2 = 1
      · have hb := pw_odd hi hp ho
        have hob : (k % 2 == 1) = true := by simpa using ho
        clear ho hi
        go_wp2
        go_round
        case rel => exact ⟨_, _, _, rfl, rfl, rfl, hb⟩
        case measure => simp [intOf]; omega
      · have hb := pw_even hi hp (by omega)
        have hob : (k % 2 == 1) = false := by simpa using ho
        clear ho hi
        go_wp2
        go_round
        case rel => exact ⟨_, _, _, rfl, rfl, rfl, hb⟩
        case measure => simp [intOf]; omega
    · obtain rfl : k = 0 := by omega
      have he := pw_end hi
      have HE := Lib.hid he; clear he hi
      go_wp2
      go_ret
      have hz : pw a n p % p = pw a n p := Int.emod_eq_of_lt (Int.emod_nonneg _ (by omega)) (Int.emod_lt_of_pos _ (by omega))
      exact gives (vint (by rw [HE.out]; exact hz)) (Below.refl _ _)

end Go.Proofs.Ytelkmldmebdcgaa
