import Derived.Test.YtfcfjlfobflmaaaDoorHgt2
import Derived.Test.YtfcfjlfobflmaaaDoorCmp
import Derived.Test.YtfcfjlfobflmaaaDoorBits
set_option linter.unusedSimpArgs false
set_option linter.unusedVariables false
namespace Go.Proofs.YtfcfjlfobflmaaaDoor
open Go.RowKit
/-! ### what doubling bounds and constants answer to one another -/

theorem bl_ltD (n : Nat) : n < 2 ^ bl n := by
  induction n using Nat.strongRecOn with
  | ind n ih =>
    by_cases h : n = 0
    · subst h; decide
    · rw [bl_half h, Nat.pow_add]
      have := ih (n / 2) (by omega)
      omega
theorem mulr {x y X Y : Int} (a : 0 ≤ x) (b : x ≤ X) (c : 0 ≤ y) (d : y ≤ Y) : 0 ≤ x * y ∧ x * y ≤ X * Y :=
  ⟨Int.mul_nonneg a c, Int.mul_le_mul b d c (by omega)⟩
theorem dbQ_rng {A B D : Int} (a0 : 0 ≤ A) (a1 : A ≤ 1000) (b0 : 0 ≤ B) (b1 : B ≤ 10000) (d0 : 0 ≤ D) (d1 : D ≤ 10000000000) : 0 ≤ dbQ A B D ∧ dbQ A B D ≤ 10000000000000000 := by
  have p2 := mulr a0 a1 a0 a1
  have p3 := mulr p2.1 p2.2 a0 a1
  have q2 := mulr b0 b1 b0 b1
  have t5 := mulr (x := 5 * A) (X := 5000) (by omega) (by omega) a0 a1
  have t5b := mulr t5.1 t5.2 b0 b1
  have u3 := mulr (x := 3 * A) (X := 3000) (by omega) (by omega) a0 a1
  have u3a := mulr u3.1 u3.2 a0 a1
  have u22 := mulr (x := 22 * B) (X := 220000) (by omega) (by omega) b0 b1
  have u8 := mulr (x := 8 * B) (X := 80000) (by omega) (by omega) b0 b1
  have t5a := mulr t5.1 t5.2 a0 a1
  have u32 := mulr (x := 32 * B) (X := 320000) (by omega) (by omega) b0 b1
  have u13 := mulr (x := 13 * A) (X := 13000) (by omega) (by omega) a0 a1
  have u13a := mulr u13.1 u13.2 a0 a1
  have u96 := mulr (x := 96 * B) (X := 960000) (by omega) (by omega) b0 b1
  have s1 := mulr (x := 4 * A) (X := 4000) (y := 3 * A * A * A + 22 * B * B) (Y := 5200000000) (by omega) (by omega) (by omega) (by omega)
  have s2 := mulr (x := 12 * B) (X := 120000) (y := A * A * A + 8 * B * B) (Y := 1800000000) (by omega) (by omega) (by omega) (by omega)
  have s3 := mulr (x := A) (X := 1000) (y := 5 * A * A * A + 32 * B * B) (Y := 8200000000) (by omega) (by omega) (by omega) (by omega)
  have s4 := mulr (x := 2 * B) (X := 20000) (y := 13 * A * A * A + 96 * B * B) (Y := 22600000000) (by omega) (by omega) (by omega) (by omega)
  have s5 := mulr (x := 3 * A * A) (X := 3000000) (y := A * A * A + 8 * B * B) (Y := 1800000000) (by omega) (by omega) (by omega) (by omega)
  unfold dbQ
  rw [win (by omega)]
  omega
theorem ab_rng {x N : Int} (h1 : -N ≤ x) (h2 : x ≤ N) (h3 : N ≤ 9000000000000000000) : 0 ≤ ab x ∧ ab x ≤ N := by
  unfold ab
  rw [win (by omega)]
  omega
theorem dsc_rng {a b : Int} (a0 : -1000 ≤ a) (a1 : a ≤ 1000) (b0 : -10000 ≤ b) (b1 : b ≤ 10000) : -10000000000 ≤ dsc a b ∧ dsc a b ≤ 10000000000 := by
  have n1 : (a * a).natAbs ≤ 1000 * 1000 := by rw [Int.natAbs_mul]; exact Nat.mul_le_mul (by omega) (by omega)
  have n2 : (a * a * a).natAbs ≤ 1000 * 1000 * 1000 := by rw [Int.natAbs_mul]; exact Nat.mul_le_mul n1 (by omega)
  have n3 : (b * b).natAbs ≤ 10000 * 10000 := by rw [Int.natAbs_mul]; exact Nat.mul_le_mul (by omega) (by omega)
  have e : 4 * a * a * a + 27 * b * b = 4 * (a * a * a) + 27 * (b * b) := by grind
  unfold dsc
  rw [e, win (by omega)]
  omega
/-- The two bounds and the constant: its bits are those of the greater bound. -/
theorem dbl_law {a b : Int} (h : isC a b = true) : ∃ M K : Int, ∃ c : Nat, dbM (ab a) (ab b) = M ∧ dbK (ab a) (ab b) (ab (dsc a b)) = K ∧ dbC a b = c + 1 ∧ c ≤ 61 ∧ 0 ≤ M ∧ 0 ≤ K ∧ M < 2 ^ (c + 1) ∧ K < 2 ^ (c + 1) ∧ ((2 : Int) ^ c ≤ M ∨ (2 : Int) ^ c ≤ K) := by
  have hi := h
  unfold isC at hi
  simp only [Bool.and_eq_true] at hi
  have ha := inB_g hi.1.1; have hb := inB_g hi.1.2
  have A := ab_rng ha.1 ha.2 (by omega)
  have B := ab_rng hb.1 hb.2 (by omega)
  have D0 := dsc_rng ha.1 ha.2 hb.1 hb.2
  have D := ab_rng D0.1 D0.2 (by omega)
  have q := dbQ_rng A.1 A.2 B.1 B.2 D.1 D.2
  have pA := mulr A.1 A.2 A.1 A.2
  have hM : 4 ≤ dbM (ab a) (ab b) ∧ dbM (ab a) (ab b) ≤ 10000000000000000 := by
    unfold dbM
    rw [win (n := 1 + 2 * ab a + 8 * ab b + ab a * ab a) (by omega), win (n := 4 * (1 + ab a + ab b)) (by omega)]
    omega
  have hK : 0 ≤ dbK (ab a) (ab b) (ab (dsc a b)) ∧ dbK (ab a) (ab b) (ab (dsc a b)) ≤ 10000000000000000 := by
    unfold dbK
    rw [win (n := 15 + 21 * ab a + 27 * ab b) (by omega)]
    omega
  have hC : dbC a b = bl (max (dbM (ab a) (ab b)) (dbK (ab a) (ab b) (ab (dsc a b)))).toNat := rfl
  generalize dbM (ab a) (ab b) = M at *
  generalize dbK (ab a) (ab b) (ab (dsc a b)) = K at *
  obtain ⟨x, hx⟩ : ∃ x : Nat, (max M K).toNat = x := ⟨_, rfl⟩
  rw [hx] at hC
  have h62 : dbC a b ≤ 62 := by rw [hC]; exact bl_le (by omega)
  have hlt := bl_ltD x
  rw [← hC] at hlt
  have hne : x ≠ 0 := by omega
  have hpos : 1 ≤ dbC a b := by rw [hC, bl_half hne]; omega
  obtain ⟨c, hc⟩ : ∃ c, dbC a b = c + 1 := ⟨dbC a b - 1, by omega⟩
  rw [hc] at hlt
  have hge : 2 ^ c ≤ x := by
    rcases Nat.lt_or_ge x (2 ^ c) with g | g
    · have := bl_le g
      omega
    · exact g
  have e1 : ((2 ^ (c + 1) : Nat) : Int) = (2 : Int) ^ (c + 1) := by push_cast; rfl
  have e2 : ((2 ^ c : Nat) : Int) = (2 : Int) ^ c := by push_cast; rfl
  refine ⟨M, K, c, rfl, rfl, hc, by omega, by omega, by omega, ?_, ?_, ?_⟩
  · rw [← e1]; omega
  · rw [← e1]; omega
  · rw [← e2]; omega
theorem dGo_law : ∀ (f n : Nat) (T : Int), T ≤ 129000 → n + f = 9 → (n = 0 ∨ 3 * ((4 ^ (n - 1) : Nat) : Int) < T) → T ≤ 3 * ((4 ^ (dGo f T (4 ^ n) n) : Nat) : Int) ∧ dGo f T (4 ^ n) n ≤ 9 ∧ (dGo f T (4 ^ n) n = 0 ∨ 3 * ((4 ^ (dGo f T (4 ^ n) n - 1) : Nat) : Int) < T)
  | 0, n, T, hT, hn, h => by
    obtain rfl : n = 9 := by omega
    have e : dGo 0 T (4 ^ 9) 9 = 9 := rfl
    rw [e]
    have : ((4 ^ 9 : Nat) : Int) = 262144 := by decide
    exact ⟨by omega, by omega, h⟩
  | f + 1, n, T, hT, hn, h => by
    by_cases g : 3 * ((4 ^ n : Nat) : Int) < T
    · rw [dGo_step g, show 4 * 4 ^ n = 4 ^ (n + 1) by rw [Nat.pow_succ]; omega]
      exact dGo_law f (n + 1) T hT (by omega) (.inr g)
    · rw [dGo_stop g]
      exact ⟨by omega, by omega, h⟩
theorem df_law {a b k : Int} (h : isC a b = true) (hk : inB k 1 1000 = true) : ∃ n : Nat, dGo 9 (dfT a b k) 1 0 = n ∧ n ≤ 9 ∧ dfT a b k ≤ 3 * ((4 ^ n : Nat) : Int) ∧ (n = 0 ∨ 3 * ((4 ^ (n - 1) : Nat) : Int) < dfT a b k) ∧ 0 ≤ dfT a b k ∧ dfT a b k ≤ 129000 := by
  have hk2 := inB_g hk
  have hc := dbC_le h
  have r := df_rng (c := ((dbC a b : Nat) : Int)) (by omega) (by omega) hk2.1 hk2.2
  have l := dGo_law 9 0 (dfT a b k) r.2 rfl (.inl rfl)
  exact ⟨_, rfl, l.2.1, l.1, l.2.2, r.1, r.2⟩

end Go.Proofs.YtfcfjlfobflmaaaDoor
