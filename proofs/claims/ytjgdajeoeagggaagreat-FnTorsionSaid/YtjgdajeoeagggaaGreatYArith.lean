import Derived.Test.YtjgdajeoeagggaaGreatYK2
import Derived.Test.YtjgdajeoeagggaaGreatYK1
set_option linter.unusedSimpArgs false
set_option linter.unusedVariables false
namespace Go.Proofs.YtjgdajeoeagggaaGreat
open Go.RowKit
/-! ### sums and products in digits: no program in sight -/
theorem val_set : ∀ (xs : List Int) (k : Nat) (v : Int), k < xs.length → val (xs.set k v) = val xs + 10000 ^ k * (v - xs.getD k 0)
  | [], k, v, h => by simp at h
  | x :: xs, 0, v, h => by simp only [List.set_cons_zero, val, List.getD_cons_zero, Int.pow_zero]; omega
  | x :: xs, k + 1, v, h => by
    have ih := val_set xs k v (by simpa using h)
    simp only [List.set_cons_succ, val, ih, List.getD_cons_succ, Int.pow_succ]
    grind
theorem val_take : ∀ (xs : List Int) (k : Nat), val (xs.take (k + 1)) = val (xs.take k) + 10000 ^ k * xs.getD k 0
  | [], k => by simp [val]
  | x :: xs, 0 => by simp [val]
  | x :: xs, k + 1 => by
    have ih := val_take xs k
    rw [List.take_succ_cons, List.take_succ_cons]
    simp only [val, ih, List.getD_cons_succ, Int.pow_succ]
    grind
theorem InR.set {xs : List Int} (h : InR xs) (k : Nat) {v : Int} (h1 : 0 ≤ v) (h2 : v ≤ 9999) : InR (xs.set k v) := by
  intro y hy
  rcases List.mem_or_eq_of_mem_set hy with hy | rfl
  · exact h y hy
  · exact ⟨h1, h2⟩
theorem InR.take {xs : List Int} (h : InR xs) (k : Nat) : InR (xs.take k) := fun y hy => h y (List.mem_of_mem_take hy)
theorem getD_set_ne (xs : List Int) {k j : Nat} (v : Int) (h : j ≠ k) : (xs.set k v).getD j 0 = xs.getD j 0 := by
  simp only [List.getD, List.getElem?_set]
  rw [if_neg (Ne.symm h)]
theorem getD_set_eq (xs : List Int) {k : Nat} (v : Int) (h : k < xs.length) : (xs.set k v).getD k 0 = v := by
  simp only [List.getD, List.getElem?_set]
  simp [h]
theorem p10 (k : Nat) : (0 : Int) < 10000 ^ k := Int.pow_pos (by omega)
theorem p10_mono {i j : Nat} (h : i ≤ j) : (10000 : Int) ^ i ≤ 10000 ^ j := by
  induction h with
  | refl => exact Int.le_refl _
  | @step m _ ih => rw [Int.pow_succ]; have := p10 m; omega
theorem val_take_lt {xs : List Int} (h : InR xs) (k : Nat) : 0 ≤ val (xs.take k) ∧ val (xs.take k) < 10000 ^ k := by
  refine ⟨val_nonneg (h.take k), ?_⟩
  have := val_lt (h.take k)
  have h2 : (10000 : Int) ^ (xs.take k).length ≤ 10000 ^ k := p10_mono (by rw [List.length_take]; omega)
  omega
theorem val_take_all {xs : List Int} {k : Nat} (h : xs.length ≤ k) : val (xs.take k) = val xs := by rw [List.take_of_length_le h]
/-- A carry that is left over after all digits is 0. -/
theorem carry_zero {c v T P : Int} (h0 : 0 ≤ v) (h1 : v < P) (t0 : 0 ≤ T) (t1 : T < P) (h : v + c * P = T) : c = 0 := by
  rcases Int.lt_trichotomy c 0 with hc | hc | hc
  · have : c * P ≤ (-1) * P := Int.mul_le_mul_of_nonneg_right (by omega) (by omega)
    omega
  · exact hc
  · have : 1 * P ≤ c * P := Int.mul_le_mul_of_nonneg_right (by omega) (by omega)
    omega
/-! sums -/
structure AddInv (s : Int) (xs ys acc : List Int) (k : Nat) (c : Int) : Prop where
  rng : InR acc
  zero : ∀ j, k ≤ j → acc.getD j 0 = 0
  car : -1 ≤ c ∧ c ≤ 1
  eq : val acc + c * 10000 ^ k = val (xs.take k) + s * val (ys.take k)
theorem AddInv.start (s : Int) (xs ys : List Int) (n : Nat) : AddInv s xs ys (List.replicate n 0) 0 0 := by
  refine ⟨?_, ?_, by omega, ?_⟩
  · intro x hx; have := List.eq_of_mem_replicate hx; omega
  · intro j _; simp only [List.getD, List.getElem?_replicate]; split <;> rfl
  · have : ∀ n, val (List.replicate n 0) = 0 := by
      intro n; induction n with
      | zero => rfl
      | succ n ih => rw [List.replicate_succ, val, ih]; rfl
    rw [this]; simp [val]
theorem AddInv.step {s : Int} {xs ys acc : List Int} {k : Nat} {c : Int} (h : AddInv s xs ys acc k c) (hk : k < acc.length) (v c' : Int) (h1 : 0 ≤ v ∧ v ≤ 9999) (h2 : -1 ≤ c' ∧ c' ≤ 1) (he : v + 10000 * c' = c + xs.getD k 0 + s * ys.getD k 0) : AddInv s xs ys (acc.set k v) (k + 1) c' := by
  obtain ⟨a1, a2, a3, a4⟩ := h
  refine ⟨a1.set k h1.1 h1.2, ?_, h2, ?_⟩
  · intro j hj; rw [getD_set_ne _ _ (by omega)]; exact a2 j (by omega)
  · rw [val_set _ _ _ hk, a2 k (Nat.le_refl _), val_take, val_take, Int.pow_succ]
    grind
theorem AddInv.done {s : Int} {xs ys acc : List Int} {k : Nat} {c : Int} (h : AddInv s xs ys acc k c) (hk : acc.length = k) (hx : xs.length ≤ k) (hy : ys.length ≤ k) (t0 : 0 ≤ val xs + s * val ys) (t1 : val xs + s * val ys < 10000 ^ k) : val acc = val xs + s * val ys := by
  obtain ⟨a1, a2, a3, a4⟩ := h
  rw [val_take_all hx, val_take_all hy] at a4
  have h0 := val_nonneg a1
  have h1 := val_lt a1
  rw [hk] at h1
  have := carry_zero h0 h1 t0 t1 a4
  subst this
  omega
theorem sum_lt {xs ys : List Int} (hx : InR xs) (hy : InR ys) {n : Nat} (h1 : xs.length ≤ n) (h2 : ys.length ≤ n) : val xs + val ys < 10000 ^ (n + 1) := by
  have a := val_lt hx; have b := val_lt hy
  have c := p10_mono h1; have d := p10_mono h2
  rw [Int.pow_succ]; have := p10 n; omega
theorem diff_lt {xs ys : List Int} (hx : InR xs) (hy : InR ys) {n : Nat} (h1 : xs.length ≤ n) : val xs + -1 * val ys < 10000 ^ n := by
  have a := val_lt hx; have b := val_nonneg hy
  have c := p10_mono h1; omega
/-- The digits of a sum or difference that are appended: carries at the end. -/
structure ComInv (s : Int) (xs ys acc : List Int) (c : Int) : Prop where
  rng : InR acc
  car : -1 ≤ c ∧ c ≤ 1
  eq : val acc + c * 10000 ^ acc.length = val (xs.take acc.length) + s * val (ys.take acc.length)
theorem ComInv.start (s : Int) (xs ys : List Int) : ComInv s xs ys [] 0 := ⟨by intro x hx; simp at hx, by omega, by simp [val]⟩
theorem ComInv.step {s : Int} {xs ys acc : List Int} {c : Int} (h : ComInv s xs ys acc c) (v c' : Int) (h1 : 0 ≤ v ∧ v ≤ 9999) (h2 : -1 ≤ c' ∧ c' ≤ 1) (he : v + 10000 * c' = xs.getD acc.length 0 + s * ys.getD acc.length 0 + c) : ComInv s xs ys (acc ++ [v]) c' := by
  obtain ⟨a1, a3, a4⟩ := h
  refine ⟨?_, h2, ?_⟩
  · intro x hx
    rcases List.mem_append.1 hx with hx | hx
    · exact a1 x hx
    · rw [List.mem_singleton.1 hx]; exact h1
  · rw [List.length_append, List.length_singleton, val_append, val_take, val_take, Int.pow_succ]
    simp only [val]
    grind
/-- Past both numbers' ends at most one digit more, and no carry that is left. -/
theorem ComInv.end {s : Int} {xs ys acc : List Int} {c : Int} (h : ComInv s xs ys acc c) (hx : xs.length ≤ acc.length) (hy : ys.length ≤ acc.length) (t0 : 0 ≤ val xs + s * val ys) : 0 ≤ c ∧ (c = 0 → val acc = val xs + s * val ys) ∧ (val xs + s * val ys < 10000 ^ acc.length → c = 0) := by
  obtain ⟨a1, a3, a4⟩ := h
  rw [val_take_all hx, val_take_all hy] at a4
  have h0 := val_nonneg a1
  have h1 := val_lt a1
  refine ⟨?_, ?_, ?_⟩
  · rcases Int.lt_or_le c 0 with hc | hc
    · have : c * 10000 ^ acc.length ≤ (-1) * 10000 ^ acc.length := Int.mul_le_mul_of_nonneg_right (by omega) (by have := p10 acc.length; omega)
      omega
    · exact hc
  · intro hc; subst hc; omega
  · intro t1; exact carry_zero h0 h1 t0 t1 a4
/-! products: each digit at once -/
structure MulInv (V x : Int) (i : Nat) (ys out : List Int) (k : Nat) (c : Int) : Prop where
  rng : InR out
  car : 0 ≤ c ∧ c ≤ 9999
  eq : val out + c * 10000 ^ k = V + x * 10000 ^ i * val (ys.take (k - i))
theorem MulInv.start {V : Int} (x : Int) (i : Nat) (ys out : List Int) (h : InR out) (hv : val out = V) : MulInv V x i ys out i 0 := ⟨h, by omega, by simp [val, hv]⟩
theorem mul_y {o c x b : Int} (ho : 0 ≤ o ∧ o ≤ 9999) (hc : 0 ≤ c ∧ c ≤ 9999) (hx : 0 ≤ x ∧ x ≤ 9999) (hb : 0 ≤ b ∧ b ≤ 9999) : 0 ≤ x * b ∧ x * b ≤ 99980001 ∧ 0 ≤ o + c + x * b ∧ o + c + x * b ≤ 99999999 := by
  have h1 : 0 ≤ x * b := Int.mul_nonneg hx.1 hb.1
  have h2 : x * b ≤ 9999 * 9999 := Int.mul_le_mul hx.2 hb.2 hb.1 (by omega)
  omega
theorem MulInv.step {V x : Int} {i : Nat} {ys out : List Int} {k : Nat} {c : Int} (h : MulInv V x i ys out k c) (hx : 0 ≤ x ∧ x ≤ 9999) (hy : InR ys) (hi : i ≤ k) (hk : k < out.length) :
    MulInv V x i ys (out.set k ((out.getD k 0 + c + x * ys.getD (k - i) 0) % 10000)) (k + 1) ((out.getD k 0 + c + x * ys.getD (k - i) 0) / 10000) := by
  obtain ⟨a1, a3, a4⟩ := h
  have b1 := mul_y (a1.at k) a3 hx (hy.at (k - i))
  generalize hY : out.getD k 0 + c + x * ys.getD (k - i) 0 = Y at *
  refine ⟨a1.set k (by omega) (by omega), by omega, ?_⟩
  have e1 : k + 1 - i = (k - i) + 1 := by omega
  have e2 : (10000 : Int) ^ k = 10000 ^ i * 10000 ^ (k - i) := by rw [← Int.pow_add]; congr 1; omega
  have e3 : Y % 10000 = Y - 10000 * (Y / 10000) := by omega
  rw [val_set _ _ _ hk, e1, val_take, Int.pow_succ, e3]
  generalize Y / 10000 = q at *
  subst hY
  rw [e2] at a4 ⊢
  grind
theorem MulInv.step2 {V x : Int} {i : Nat} {ys out : List Int} {k : Nat} {c : Int} (h : MulInv V x i ys out k c) (hx : 0 ≤ x ∧ x ≤ 9999) (hy : InR ys) (hi : i ≤ k) (hk : k < out.length) (y : Int) (e : y = out.getD k 0 + c + x * ys.getD (k - i) 0) :
    MulInv V x i ys (out.set k (y % 10000)) (k + 1) (y / 10000) := by subst e; exact h.step hx hy hi hk
theorem MulInv.done {V x : Int} {i : Nat} {ys out : List Int} {k : Nat} {c : Int} (h : MulInv V x i ys out k c) (hk : out.length = k) (hy : ys.length + i ≤ k) (t0 : 0 ≤ V + x * 10000 ^ i * val ys) (t1 : V + x * 10000 ^ i * val ys < 10000 ^ k) : val out = V + x * 10000 ^ i * val ys := by
  obtain ⟨a1, a3, a4⟩ := h
  rw [val_take_all (show ys.length ≤ k - i by omega)] at a4
  have h0 := val_nonneg a1
  have h1 := val_lt a1
  rw [hk] at h1
  have := carry_zero h0 h1 t0 t1 a4
  subst this
  omega
theorem prod_lt {xs ys : List Int} (hx : InR xs) (hy : InR ys) (i n : Nat) (h : i + ys.length ≤ n) : 0 ≤ val (xs.take i) * val ys ∧ val (xs.take i) * val ys < 10000 ^ n := by
  have a := val_take_lt hx i
  have b := val_nonneg hy
  have c := val_lt hy
  have d := p10_mono h
  refine ⟨Int.mul_nonneg a.1 b, ?_⟩
  have h1 : val (xs.take i) * val ys ≤ 10000 ^ i * val ys := Int.mul_le_mul_of_nonneg_right (by omega) b
  have h2 : (10000 : Int) ^ i * val ys < 10000 ^ i * 10000 ^ ys.length := Int.mul_lt_mul_of_pos_left c (p10 i)
  rw [Int.pow_add] at d
  omega
theorem prod_step (xs ys : List Int) (i : Nat) : val (xs.take i) * val ys + xs.getD i 0 * 10000 ^ i * val ys = val (xs.take (i + 1)) * val ys := by
  rw [val_take]; grind
/-! products: sums of products first -/
structure SumInv (V x : Int) (i : Nat) (ys s : List Int) (k : Nat) : Prop where
  lo : ∀ j, 0 ≤ s.getD j 0
  hi : ∀ j, s.getD j 0 ≤ 100000000 * (i : Int) + (if j < i + k then 100000000 else 0)
  eq : val s = V + x * 10000 ^ i * val (ys.take k)
theorem SumInv.step {V x : Int} {i : Nat} {ys s : List Int} {k : Nat} (h : SumInv V x i ys s k) (hx : 0 ≤ x ∧ x ≤ 9999) (hy : InR ys) (hk : i + k < s.length) : SumInv V x i ys (s.set (i + k) (s.getD (i + k) 0 + x * ys.getD k 0)) (k + 1) := by
  obtain ⟨a1, a2, a4⟩ := h
  have b1 := mul_y ⟨Int.le_refl 0, by omega⟩ ⟨Int.le_refl 0, by omega⟩ hx (hy.at k)
  have hz := a1 (i + k)
  have hu := a2 (i + k)
  refine ⟨?_, ?_, ?_⟩
  · intro j
    by_cases e : j = i + k
    · subst e; rw [getD_set_eq _ _ hk]; omega
    · rw [getD_set_ne _ _ e]; exact a1 j
  · intro j
    by_cases e : j = i + k
    · subst e; rw [getD_set_eq _ _ hk]
      rw [if_neg (by omega)] at hu
      rw [if_pos (by omega)]
      omega
    · rw [getD_set_ne _ _ e]
      have := a2 j
      split at this
      · rw [if_pos (by omega)]; exact this
      · rw [if_neg (by omega)]; exact this
  · rw [val_set _ _ _ hk, a4, val_take, Int.pow_add]
    grind
theorem SumInv.next {V x : Int} {i : Nat} {ys s : List Int} {k : Nat} (h : SumInv V x i ys s k) (hk : ys.length ≤ k) (x' : Int) : SumInv (V + x * 10000 ^ i * val ys) x' (i + 1) ys s 0 := by
  obtain ⟨a1, a2, a4⟩ := h
  rw [val_take_all hk] at a4
  refine ⟨a1, fun j => ?_, ?_⟩
  · have := a2 j
    split at this <;> split <;> omega
  · rw [a4]; simp [val]
theorem SumInv.start (x : Int) (ys : List Int) (n : Nat) : SumInv 0 x 0 ys (List.replicate n 0) 0 := by
  have h := AddInv.start 0 [] [] n
  refine ⟨fun j => ?_, fun j => ?_, ?_⟩
  · rw [h.zero j (by omega)]; exact Int.le_refl _
  · rw [h.zero j (by omega)]; split <;> omega
  · have := h.eq; simp [val] at this ⊢; exact this
structure CarInv (T : Int) (s : List Int) (k : Nat) (c : Int) : Prop where
  lo : ∀ j, j < k → 0 ≤ s.getD j 0 ∧ s.getD j 0 ≤ 9999
  hi : ∀ j, k ≤ j → 0 ≤ s.getD j 0 ∧ s.getD j 0 ≤ 1000000000000000
  car : 0 ≤ c ∧ c ≤ 1000000000000000
  eq : val s + c * 10000 ^ k = T
theorem CarInv.step {T : Int} {s : List Int} {k : Nat} {c : Int} (h : CarInv T s k c) (hk : k < s.length) : CarInv T (s.set k ((s.getD k 0 + c) % 10000)) (k + 1) ((s.getD k 0 + c) / 10000) := by
  obtain ⟨a1, a2, a3, a4⟩ := h
  have hb := a2 k (Nat.le_refl _)
  refine ⟨fun j hj => ?_, fun j hj => ?_, by omega, ?_⟩
  · by_cases e : j = k
    · subst e; rw [getD_set_eq _ _ hk]; omega
    · rw [getD_set_ne _ _ e]; exact a1 j (by omega)
  · rw [getD_set_ne _ _ (by omega)]; exact a2 j (by omega)
  · have e3 : (s.getD k 0 + c) % 10000 = (s.getD k 0 + c) - 10000 * ((s.getD k 0 + c) / 10000) := by omega
    rw [val_set _ _ _ hk, Int.pow_succ, e3]
    generalize (s.getD k 0 + c) / 10000 = q at *
    grind
theorem CarInv.done {T : Int} {s : List Int} {k : Nat} {c : Int} (h : CarInv T s k c) (hk : s.length = k) (t0 : 0 ≤ T) (t1 : T < 10000 ^ k) : InR s ∧ val s = T := by
  obtain ⟨a1, a2, a3, a4⟩ := h
  have hr : InR s := by
    intro y hy
    obtain ⟨j, hj, rfl⟩ := List.mem_iff_getElem.1 hy
    have := a1 j (by omega)
    simpa only [List.getD, List.getElem?_eq_getElem hj, Option.getD_some] using this
  have h0 := val_nonneg hr
  have h1 := val_lt hr
  rw [hk] at h1
  have := carry_zero h0 h1 t0 t1 a4
  subst this
  exact ⟨hr, by omega⟩
/-! signs and lengths -/
theorem len0 (n : Nat) : decide (0 < (dg n).length) = decide (n ≠ 0) := by
  have := dg_nil n
  cases h : dg n with
  | nil => simp [this.mp h]
  | cons x l => 
    have h2 : n ≠ 0 := fun g => by rw [this.mpr g] at h; cases h
    simp [h2]
theorem sgn_mul (a b : Int) : (((decide (a < 0)) != (decide (b < 0))) && decide ((a * b).natAbs ≠ 0)) = decide (a * b < 0) := by
  rcases Int.lt_trichotomy a 0 with ha | ha | ha
  · rcases Int.lt_trichotomy b 0 with hb | hb | hb
    · have := Int.mul_pos_of_neg_of_neg ha hb
      simp [ha, hb]; omega
    · subst hb; simp
    · have := Int.mul_neg_of_neg_of_pos ha hb
      have h2 : ¬ b < 0 := by omega
      simp [ha, h2, this]; omega
  · subst ha; simp
  · rcases Int.lt_trichotomy b 0 with hb | hb | hb
    · have := Int.mul_neg_of_pos_of_neg ha hb
      have h2 : ¬ a < 0 := by omega
      simp [hb, h2, this]; omega
    · subst hb; simp
    · have := Int.mul_pos ha hb
      have h2 : ¬ a < 0 := by omega
      have h3 : ¬ b < 0 := by omega
      simp [h2, h3]; omega
theorem tz_val {zs : List Int} (h : InR zs) : decide (0 < tz zs zs.length) = decide ((val zs).toNat ≠ 0) := by
  rw [← len0, ← trim_dg h]
  unfold trim
  rw [List.length_take, Nat.min_eq_left (tz_le _ _)]
theorem dg_len_mul (a b : Int) : (dg (a * b).natAbs).length ≤ (dg a.natAbs).length + (dg b.natAbs).length := by
  rw [dg_len_iff, Int.natAbs_mul, Nat.pow_add]
  have h1 := (dg_len_iff a.natAbs _).mp (Nat.le_refl _)
  have h2 := (dg_len_iff b.natAbs _).mp (Nat.le_refl _)
  exact Nat.mul_lt_mul'' h1 h2
theorem dg_len_add (a b : Int) {n : Nat} (h1 : (dg a.natAbs).length ≤ n) (h2 : (dg b.natAbs).length ≤ n) : (dg (a + b).natAbs).length ≤ n + 1 := by
  rw [dg_len_iff] at h1 h2 ⊢
  rw [Nat.pow_succ]
  have := Int.natAbs_add_le a b
  omega
end Go.Proofs.YtjgdajeoeagggaaGreat
