import GoSem.Core.Float
set_option linter.unusedSimpArgs false
set_option linter.unusedVariables false
namespace Go.Proofs.Yteenhcikogmjjaa
open Ieee
theorem cut_even_0 (neg : Bool) (n : Nat) : Toward.even.cut neg n 0 = n := by
  simp [Toward.cut, Nat.mod_one]
theorem lg {n k : Nat} (h : n ≠ 0) (h1 : 2 ^ k ≤ n) (h2 : n < 2 ^ (k + 1)) : n.log2 = k := by
  have := (Nat.log2_lt h (k := k + 1)).2 h2
  have := (Nat.le_log2 h (k := k)).2 h1
  omega
theorem word_bd (neg : Bool) (W : Nat) (h : W < 2047 * 2 ^ 52) : ∃ mag : Nat, ∃ place : Int, double.read W = .number false mag place ∧ mag < 2 ^ 53 ∧ ((W < 2 ^ 52 ∧ mag = W ∧ place = -1074) ∨ (2 ^ 52 ≤ W ∧ mag = 2 ^ 52 + W % 2 ^ 52 ∧ place = -1074 + ((W / 2 ^ 52 - 1 : Nat) : Int))) := by
  have e1 : double.signWeight = 9223372036854775808 := by decide
  have e2 : double.binade = 4503599627370496 := by decide
  have e3 : double.infRung = 9218868437227405312 := by decide
  have e4 : double.leastPlace = -1074 := by decide
  have g1 : W / 9223372036854775808 = 0 := by omega
  have g2 : W % 9223372036854775808 = W := by omega
  unfold Format.read
  simp only [e1, e2, e3, e4, g1, g2]
  by_cases c : W < 4503599627370496
  · rw [if_pos c]
    exact ⟨W, -1074, rfl, by omega, .inl ⟨by omega, rfl, rfl⟩⟩
  · rw [if_neg c, if_pos (by omega)]
    exact ⟨_, _, rfl, by omega, .inr ⟨by omega, by omega, rfl⟩⟩
theorem near_n (n : Nat) (h0 : n ≠ 0) (h : n < 2 ^ 52) : double.nearest false n 0 = (n.log2 + 1022) * 2 ^ 52 + n * 2 ^ (52 - n.log2) := by
  have e2 : double.binade = 4503599627370496 := by decide
  have e3 : double.infRung = 9218868437227405312 := by decide
  have e4 : double.leastPlace = -1074 := by decide
  have e5 : double.fractionBits = 52 := by decide
  have l1 : n.log2 < 52 := (Nat.log2_lt h0).2 h
  unfold Format.nearest
  rw [if_neg h0]
  simp only [e2, e3, e4, e5, Format.word]
  have m1 : max ((0 : Int) + (n.log2 : Int) - ((52 : Nat) : Int)) (-1074) = (n.log2 : Int) - 52 := by omega
  rw [m1]
  have a1 : (0 - ((n.log2 : Int) - 52)).toNat = 52 - n.log2 := by omega
  have a2 : ((n.log2 : Int) - 52 - 0).toNat = 0 := by omega
  have a3 : ((n.log2 : Int) - 52 - -1074).toNat = n.log2 + 1022 := by omega
  rw [a1, a2, a3, cut_even_0, Nat.shiftLeft_eq]
  have b1 : n < 2 ^ (n.log2 + 1) := Nat.lt_log2_self
  have b2 : n * 2 ^ (52 - n.log2) < 2 ^ (n.log2 + 1) * 2 ^ (52 - n.log2) := Nat.mul_lt_mul_of_pos_right b1 (Nat.two_pow_pos _)
  rw [← Nat.pow_add, show n.log2 + 1 + (52 - n.log2) = 53 by omega] at b2
  rw [if_neg (by decide)]
  generalize n * 2 ^ (52 - n.log2) = k at *
  rw [Nat.min_eq_left (by omega)]
theorem near_read (n : Nat) (h0 : n ≠ 0) (h : n < 2 ^ 52) : ∃ m : Nat, double.read (double.nearest false n 0) = .number false m ((n.log2 : Int) - 52) ∧ 2 ^ 52 ≤ m ∧ m < 2 ^ 53 := by
  have l1 : n.log2 < 52 := (Nat.log2_lt h0).2 h
  have b1 : n < 2 ^ (n.log2 + 1) := Nat.lt_log2_self
  have b2 : n * 2 ^ (52 - n.log2) < 2 ^ (n.log2 + 1) * 2 ^ (52 - n.log2) := Nat.mul_lt_mul_of_pos_right b1 (Nat.two_pow_pos _)
  rw [← Nat.pow_add, show n.log2 + 1 + (52 - n.log2) = 53 by omega] at b2
  have b3 : 2 ^ n.log2 ≤ n := Nat.log2_self_le h0
  have b4 : 2 ^ n.log2 * 2 ^ (52 - n.log2) ≤ n * 2 ^ (52 - n.log2) := Nat.mul_le_mul_right _ b3
  rw [← Nat.pow_add, show n.log2 + (52 - n.log2) = 52 by omega] at b4
  rw [near_n n h0 h]
  generalize n * 2 ^ (52 - n.log2) = k at *
  generalize n.log2 = l at *
  obtain ⟨mag, place, hr, hm, hc⟩ := word_bd false ((l + 1022) * 2 ^ 52 + k) (by omega)
  refine ⟨mag, ?_, ?_⟩
  · rw [hr]
    rcases hc with ⟨c1, _⟩ | ⟨_, c2, c3⟩
    · omega
    · congr 1
      omega
  · rcases hc with ⟨c1, _⟩ | ⟨_, c2, c3⟩
    · omega
    · omega
theorem rootFrom_le (n : Nat) : ∀ (todo r : Nat), r * r ≤ n → Datum.rootFrom n todo r * Datum.rootFrom n todo r ≤ n := by
  intro todo
  induction todo with
  | zero => intro r h; exact h
  | succ t ih =>
    intro r h
    unfold Datum.rootFrom
    dsimp only
    split
    · next c => exact ih _ c
    · exact ih _ h
theorem root_bd (m : Nat) (i : Int) (h1 : 2 ^ 52 ≤ m) (h2 : m < 2 ^ 53) (h3 : -52 ≤ i) (h4 : i ≤ 0) : ∃ M : Nat, ∃ p : Int, (Datum.number false m i).root 54 = some (.number false M p) ∧ M < 2 ^ 56 ∧ -56 ≤ p ∧ p ≤ -29 := by
  have l1 : m.log2 = 52 := lg (by omega) h1 h2
  have ht : (Datum.number false m i).root 54 = if m = 0 then some (Datum.number false m i) else if false = true then none else some (Datum.number false (2 * Datum.rootFrom (m <<< (2 * 54 - m.log2 + ((i - ((2 * 54 - m.log2 : Nat) : Int)) % 2).toNat)) ((m <<< (2 * 54 - m.log2 + ((i - ((2 * 54 - m.log2 : Nat) : Int)) % 2).toNat)).log2 / 2 + 1) 0 + (Datum.rootFrom (m <<< (2 * 54 - m.log2 + ((i - ((2 * 54 - m.log2 : Nat) : Int)) % 2).toNat)) ((m <<< (2 * 54 - m.log2 + ((i - ((2 * 54 - m.log2 : Nat) : Int)) % 2).toNat)).log2 / 2 + 1) 0 * Datum.rootFrom (m <<< (2 * 54 - m.log2 + ((i - ((2 * 54 - m.log2 : Nat) : Int)) % 2).toNat)) ((m <<< (2 * 54 - m.log2 + ((i - ((2 * 54 - m.log2 : Nat) : Int)) % 2).toNat)).log2 / 2 + 1) 0 != m <<< (2 * 54 - m.log2 + ((i - ((2 * 54 - m.log2 : Nat) : Int)) % 2).toNat)).toNat) ((i - ((2 * 54 - m.log2 + ((i - ((2 * 54 - m.log2 : Nat) : Int)) % 2).toNat : Nat) : Int)) / 2 - 1)) := rfl
  rw [ht, if_neg (by omega), if_neg (by decide)]
  clear ht
  have e0 : 2 * 54 - m.log2 = 56 := by omega
  simp only [e0]
  generalize hk : 56 + ((i - ((56 : Nat) : Int)) % 2).toNat = k
  have hk1 : 56 ≤ k ∧ k ≤ 57 := by omega
  rw [Nat.shiftLeft_eq]
  have q1 : m * 2 ^ k < 2 ^ 53 * 2 ^ 57 := by
    have : 2 ^ k ≤ 2 ^ 57 := Nat.pow_le_pow_right (by decide) hk1.2
    calc m * 2 ^ k ≤ m * 2 ^ 57 := Nat.mul_le_mul_left _ this
      _ < 2 ^ 53 * 2 ^ 57 := Nat.mul_lt_mul_of_pos_right h2 (by decide)
  generalize m * 2 ^ k = N at *
  have q2 := rootFrom_le N (N.log2 / 2 + 1) 0 (by omega)
  generalize Datum.rootFrom N (N.log2 / 2 + 1) 0 = r at *
  have q3 : r < 2 ^ 55 := by
    rcases Nat.lt_or_ge r (2 ^ 55) with g | g
    · exact g
    · have : 2 ^ 55 * 2 ^ 55 ≤ r * r := Nat.mul_le_mul g g
      omega
  have q4 : (r * r != N).toNat ≤ 1 := by cases (r * r != N) <;> decide
  exact ⟨_, _, rfl, by omega, by omega, by omega⟩
theorem aux_min {Z K : Nat} (q1 : Z ≤ 1048) (key : K ≤ 2 ^ 53) : min (Z * 4503599627370496 + K) 9218868437227405312 ≤ 1050 * 2 ^ 52 := by
  refine Nat.le_trans (Nat.min_le_left (Z * 4503599627370496 + K) 9218868437227405312) ?_
  have h : 1050 * 2 ^ 52 = 1048 * 4503599627370496 + 2 ^ 53 := by decide
  rw [h]
  exact Nat.add_le_add (Nat.mul_le_mul_right _ q1) key
theorem write_bd (M : Nat) (p : Int) (h : M < 2 ^ 56) (h1 : -56 ≤ p) (h2 : p ≤ -29) : double.nearest false M p ≤ 1050 * 2 ^ 52 := by
  have e2 : double.binade = 4503599627370496 := by decide
  have e3 : double.infRung = 9218868437227405312 := by decide
  have e4 : double.leastPlace = -1074 := by decide
  have e5 : double.fractionBits = 52 := by decide
  unfold Format.nearest
  by_cases h0 : M = 0
  · rw [if_pos h0]; simp [Format.word]
  · rw [if_neg h0]
    have l1 : M.log2 < 56 := (Nat.log2_lt h0).2 h
    simp only [e2, e3, e4, e5, Format.word]
    have m1 : max (p + (M.log2 : Int) - ((52 : Nat) : Int)) (-1074) = p + (M.log2 : Int) - 52 := by omega
    rw [m1]
    have b1 : M < 2 ^ (M.log2 + 1) := Nat.lt_log2_self
    have key : Toward.even.cut false (M <<< (p - (p + (M.log2 : Int) - 52)).toNat) (p + (M.log2 : Int) - 52 - p).toNat ≤ 2 ^ 53 := by
      by_cases c : M.log2 ≤ 52
      · have a1 : (p - (p + (M.log2 : Int) - 52)).toNat = 52 - M.log2 := by omega
        have a2 : (p + (M.log2 : Int) - 52 - p).toNat = 0 := by omega
        rw [a1, a2, cut_even_0, Nat.shiftLeft_eq]
        have b2 : M * 2 ^ (52 - M.log2) < 2 ^ (M.log2 + 1) * 2 ^ (52 - M.log2) := Nat.mul_lt_mul_of_pos_right b1 (Nat.two_pow_pos _)
        rw [← Nat.pow_add, show M.log2 + 1 + (52 - M.log2) = 53 by omega] at b2
        omega
      · have a1 : (p - (p + (M.log2 : Int) - 52)).toNat = 0 := by omega
        have a2 : (p + (M.log2 : Int) - 52 - p).toNat = M.log2 - 52 := by omega
        rw [a1, a2]
        unfold Toward.cut
        have s0 : M <<< 0 = M := rfl
        have s1 : min (M.log2 - 52) (M.log2 + 2) = M.log2 - 52 := by omega
        simp only [s0, s1, Nat.shiftLeft_eq, Nat.one_mul]
        have b3 : M / 2 ^ (M.log2 - 52) < 2 ^ 53 := by
          rw [Nat.div_lt_iff_lt_mul (Nat.two_pow_pos _), ← Nat.pow_add, show 53 + (M.log2 - 52) = M.log2 + 1 by omega]
          exact b1
        have b4 : ∀ b : Bool, b.toNat ≤ 1 := by decide
        have := b4 (decide (2 ^ (M.log2 - 52) < 2 * (M % 2 ^ (M.log2 - 52))) || (2 ^ (M.log2 - 52) == 2 * (M % 2 ^ (M.log2 - 52)) && M / 2 ^ (M.log2 - 52) % 2 == 1))
        omega
    generalize Toward.even.cut false (M <<< (p - (p + (M.log2 : Int) - 52)).toNat) (p + (M.log2 : Int) - 52 - p).toNat = K at *
    rw [if_neg (by decide)]
    have q1 : (p + (M.log2 : Int) - 52 - -1074).toNat ≤ 1048 := by omega
    exact aux_min q1 key
theorem toInt_bd (W : Nat) (h : W ≤ 1050 * 2 ^ 52) : ∃ r : Nat, (double.read W).toInt .zero = some (r : Int) ∧ r ≤ 2 ^ 30 := by
  obtain ⟨mag, place, hr, hm, hc⟩ := word_bd false W (by omega)
  rw [hr]
  have hp : place ≤ -25 := by
    rcases hc with ⟨_, _, c⟩ | ⟨_, _, c⟩ <;> omega
  unfold Datum.toInt Datum.integral
  have e1 : place.toNat = 0 := by omega
  simp only [e1]
  refine ⟨_, rfl, ?_⟩
  have e2 : mag <<< 0 = mag := rfl
  rw [e2]
  unfold Toward.cut
  simp only [Nat.shiftLeft_eq, Nat.one_mul]
  generalize hd : (-place).toNat = d
  have hd2 : 25 ≤ d := by omega
  by_cases c : d ≤ mag.log2 + 2
  · rw [show min d (mag.log2 + 2) = d by omega]
    have : mag / 2 ^ d ≤ mag / 2 ^ 25 := Nat.div_le_div_left (Nat.pow_le_pow_right (by decide) hd2) (by decide)
    show (mag / 2 ^ d + 0) * 2 ^ 0 ≤ _
    rw [Nat.pow_zero]
    omega
  · rw [show min d (mag.log2 + 2) = mag.log2 + 2 by omega]
    have b1 : mag < 2 ^ (mag.log2 + 1) := Nat.lt_log2_self
    have b2 : 2 ^ (mag.log2 + 1) ≤ 2 ^ (mag.log2 + 2) := Nat.pow_le_pow_right (by decide) (by omega)
    have : mag / 2 ^ (mag.log2 + 2) = 0 := Nat.div_eq_of_lt (by omega)
    show (mag / 2 ^ (mag.log2 + 2) + 0) * 2 ^ 0 ≤ _
    rw [Nat.pow_zero]
    omega
theorem sqrt_ok (n : Nat) (h : n < 2 ^ 52) : ∃ y r : Nat, FloatKind.f64.format.sqrt (FloatKind.f64.nearest (n : Int)) = some y ∧ (FloatKind.f64.decode y).toInt .zero = some (r : Int) ∧ r ≤ 2 ^ 30 := by
  have e : FloatKind.f64.nearest (n : Int) = double.nearest false n 0 := by
    have : decide ((n : Int) < 0) = false := by simp
    unfold FloatKind.nearest FloatKind.encode Format.write FloatKind.format
    rw [this]
    rfl
  rw [e]
  unfold FloatKind.decode FloatKind.format Format.sqrt
  have e5 : double.fractionBits + 2 = 54 := by decide
  simp only [e5]
  by_cases h0 : n = 0
  · subst h0
    exact ⟨0, 0, by decide +kernel, by decide +kernel, by omega⟩
  · obtain ⟨m, hr, hm1, hm2⟩ := near_read n h0 h
    have l1 : n.log2 < 52 := (Nat.log2_lt h0).2 h
    obtain ⟨M, p, hq, hM, hp1, hp2⟩ := root_bd m ((n.log2 : Int) - 52) hm1 hm2 (by omega) (by omega)
    rw [hr, hq]
    obtain ⟨r, hr2, hb⟩ := toInt_bd (double.nearest false M p) (write_bd M p hM hp1 hp2)
    exact ⟨_, r, rfl, hr2, hb⟩

end Go.Proofs.Yteenhcikogmjjaa
