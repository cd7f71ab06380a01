import Derived.Test.YteenhcikogmjjaaLawS2
set_option linter.unusedSimpArgs false
set_option linter.unusedVariables false
namespace Go.Proofs.Yteenhcikogmjjaa
open Go.RowKit
/-! ### candidates of torsion points -/

theorem frRoot_any (n : Int) (h0 : 0 ≤ n) (hn : n ≤ 4000000000000000000) (w : World) : Calls Try.prog 62 #[.int .i64 n] w (Same (.int .i64 (rt n)) w) := by
  generalize hR : rt n = R
  have HR := Lib.hid hR; clear hR
  go_enter Try.func62, Try.ntmps62
  go_wp2
  go_loop [3, 4] (fun v3 v4 => ∃ a b : Int, v3 = .int .i64 a ∧ v4 = .int .i64 b ∧ 0 ≤ a ∧ a < b ∧ b ≤ 2000000001 ∧ a * a ≤ n ∧ n < b * b) (fun v3 v4 => (intOf v4 - intOf v3).toNat)
  case atStart => exact ⟨0, 2000000001, rfl, rfl, by omega, by omega, by omega, by omega, by omega⟩
  case round =>
    obtain ⟨a, b, rfl, rfl, h1, h2, h3, h4, h5⟩ := hrel
    by_cases hlt : 1 < b - a
    · have hm1 : a < (a + b) / 2 := by omega
      have hm2 : (a + b) / 2 < b := by omega
      generalize hm : (a + b) / 2 = m at *
      have HM := Lib.hid hm
      obtain ⟨b1, b2⟩ := sq_b (r := m) (by omega) (by omega)
      by_cases c : m * m ≤ n
      · go_wp2
        go_round
        case rel => exact ⟨m, b, by rw [HM.out], rfl, by omega, by omega, by omega, c, h5⟩
        case measure => simp [intOf]; omega
      · go_wp2
        go_round
        case rel => exact ⟨a, m, rfl, by rw [HM.out], by omega, by omega, by omega, h4, by omega⟩
        case measure => simp [intOf]; omega
    · have e : rt n = a := rt_eq h1 h4 (by rw [show a + 1 = b by omega]; exact h5)
      have E2 := Lib.hid (show R = a by rw [← HR.out, e])
      clear e
      go_wp2
      go_ret
      exact same (vint E2.out.symm)

theorem dsc_b {a b : Int} (h1 : a.natAbs ≤ 1000) (h2 : b.natAbs ≤ 10000) : -6700000000 ≤ dsc a b ∧ dsc a b ≤ 6700000000 := by
  have t1 := abs_mul (abs_mul (abs_mul (show (4 : Int).natAbs ≤ 4 by decide) h1) h1) h1
  have t2 := abs_mul (abs_mul (show (27 : Int).natAbs ≤ 27 by decide) h2) h2
  unfold dsc
  generalize 4*a*a*a = X at *
  generalize 27*b*b = Y at *
  rw [win (by omega)]
  omega
def ptsX (x e n : Int) : List P3 := if sqB n = true then (if n = 0 then [(x, 0, e)] else [(x, -rt n, e), (x, rt n, e)]) else []
def cnd (a b x : Int) : List P3 := if cVal a b x 1 = 0 ∨ (dsc a b).tmod (cVal a b x 1) = 0 then ptsX x 1 (cVal a b x 1) else []
def cds (a b : Int) (k : Nat) : List P3 := (List.range k).flatMap fun (i : Nat) => cnd a b (-3000 + (i : Int))
theorem cds_succ (a b : Int) (k : Nat) : cds a b (k + 1) = cds a b k ++ cnd a b (-3000 + (k : Int)) := by
  unfold cds; rw [List.range_succ, List.flatMap_append]; simp
theorem ptsX_len (x e n : Int) : (ptsX x e n).length ≤ 2 := by unfold ptsX; split <;> (try split) <;> simp
theorem cnd_len (a b x : Int) : (cnd a b x).length ≤ 2 := by unfold cnd; split; exact ptsX_len _ _ _; simp
theorem cds_len (a b : Int) (k : Nat) : (cds a b k).length ≤ 2 * k := by
  induction k with
  | zero => simp [cds]
  | succ k ih => rw [cds_succ, List.length_append]; have := cnd_len a b (-3000 + (k : Int)); omega
theorem rt_zero_iff {n : Int} (h : sqB n = true) : rt n = 0 ↔ n = 0 := by
  obtain ⟨r, h0, h1⟩ := sqB_iff.1 h
  have e := rt_sq h0 h1
  rw [e]
  constructor
  · intro h2; rw [h2] at h1; omega
  · intro h2
    rcases Int.lt_or_le 0 r with g | g
    · have := Int.mul_pos g g; omega
    · omega
theorem sq_rt {n : Int} (h : sqB n = true) : rt n * rt n = n ∧ 0 ≤ n := by
  obtain ⟨r, h0, h1⟩ := sqB_iff.1 h
  rw [rt_sq h0 h1]; exact ⟨h1, by have := Int.mul_nonneg h0 h0; omega⟩
theorem ownP_lit1 (w : World) (p : P3) : OwnP (w.alloc (.cells #[.int .i64 p.1, .int .i64 p.2.1, .int .i64 p.2.2] 26)) w.heap.size (.slice (some ⟨w.heap.size, 0, none⟩) 1 1) [p] :=
  World.ownsRow_lit w #[.int .i64 p.1, .int .i64 p.2.1, .int .i64 p.2.2] 1 (Nat.le_refl _) (by unfold maxLen; omega) rfl
theorem ownP_lit2 (w : World) (p q : P3) : OwnP (w.alloc (.cells #[.int .i64 p.1, .int .i64 p.2.1, .int .i64 p.2.2, .int .i64 q.1, .int .i64 q.2.1, .int .i64 q.2.2] 26)) w.heap.size (.slice (some ⟨w.heap.size, 0, none⟩) 2 2) [p, q] :=
  World.ownsRow_lit w #[.int .i64 p.1, .int .i64 p.2.1, .int .i64 p.2.2, .int .i64 q.1, .int .i64 q.2.1, .int .i64 q.2.2] 2 (Nat.le_refl _) (by unfold maxLen; omega) rfl

theorem ptValue_any (a b x e : Int) (w : World) : Calls Try.prog 59 #[.agg #[.int .i64 a, .int .i64 b], .int .i64 x, .int .i64 e] w (Gives (.int .i64 (cVal a b x e)) w) := by
  go_enter Try.func59, Try.ntmps59
  go_wp2
  go_ret
  exact gives (vint (by simp only [cVal, wadd_l, wadd_r, wmul_l, wmul_r]; congr 1; grind)) (by repeat' (first | (with_reducible exact Below.refl _ _) | (with_reducible assumption) | (with_reducible refine Below.alloc ?_ ?_ _) | (with_reducible refine Below.setCell ?_ ?_ _) | (with_reducible refine Below.drew ?_) | (with_reducible refine below_drewN ?_ _) | (apply bthen2; (with_reducible assumption)) | go_size))

end Go.Proofs.Yteenhcikogmjjaa
