import Derived.Test.YtjgdajeoeagggaaGreatYK5
import Derived.Test.YtjgdajeoeagggaaGreatYK7
import Derived.Test.YtjgdajeoeagggaaGreatYK1
import Derived.Test.YtjgdajeoeagggaaGreatYK6
set_option linter.unusedSimpArgs false
set_option linter.unusedVariables false
namespace Go.Proofs.YtjgdajeoeagggaaGreat
open Go.RowKit
/-! ### searches for points -/
theorem abs_mul {x y : Int} {m n : Nat} (h1 : x.natAbs ≤ m) (h2 : y.natAbs ≤ n) : (x * y).natAbs ≤ m * n := by rw [Int.natAbs_mul]; exact Nat.mul_le_mul h1 h2
theorem cVal_b {a b x e : Int} (h1 : a.natAbs ≤ 1000) (h2 : b.natAbs ≤ 10000) (h3 : x.natAbs ≤ 10000) (h4 : e.natAbs ≤ 20) : -3240000000000 ≤ cVal a b x e ∧ cVal a b x e ≤ 3240000000000 ∧ cVal a b x e = x*x*x + a*x*e*e*e*e + b*e*e*e*e*e*e := by
  have t1 := abs_mul (abs_mul h3 h3) h3
  have t2 := abs_mul (abs_mul (abs_mul (abs_mul (abs_mul h1 h3) h4) h4) h4) h4
  have t3 := abs_mul (abs_mul (abs_mul (abs_mul (abs_mul (abs_mul h2 h4) h4) h4) h4) h4) h4
  unfold cVal
  generalize x*x*x = X at *
  generalize a*x*e*e*e*e = Y at *
  generalize b*e*e*e*e*e*e = Z at *
  rw [win (by omega)]
  omega
/-- the point with an x -/
def pt (a b e x : Int) : Option P3 := if (Int.gcd x e : Int) = 1 ∧ sqB (cVal a b x e) = true then some (x, rt (cVal a b x e), e) else none
def GivesPB (ps : List P3) (ok : Bool) (w : World) (e : Ending) (w' : World) : Prop := ∃ a len cap, e = .returned (.tuple #[.slice a len cap, .bool ok]) ∧ OwnP w' w.heap.size (.slice a len cap) ps ∧ Below w.heap.size w w'
/-! ### searches over all denominators -/
/-! ### candidates of torsion points -/
theorem frRoot_any (n : Int) (h0 : 0 ≤ n) (hn : n ≤ 4000000000000000000) (w : World) : Calls Tryz.prog 123 #[.int .i64 n] w (Same (.int .i64 (rt n)) w) := by
  generalize hR : rt n = R
  have HR := Lib.hid hR; clear hR
  go_enter Tryz.func123, Tryz.ntmps123
  go_wp2
  go_loop [3, 4] (fun v3 v4 => ∃ a b : Int, v3 = .int .i64 a ∧ v4 = .int .i64 b ∧ 0 ≤ a ∧ a < b ∧ b ≤ 2000000001 ∧ a * a ≤ n ∧ n < b * b) (fun v3 v4 => (intOf v4 - intOf v3).toNat)
  case atStart => exact ⟨0, 2000000001, rfl, rfl, by omega, by omega, by omega, by omega, by omega⟩
  case round =>
    obtain ⟨a, b, rfl, rfl, h1, h2, h3, h4, h5⟩ := hrel
    by_cases hlt : 1 < b - a
    · have hm1 : a < (a + b) / 2 := by omega
      have hm2 : (a + b) / 2 < b := by omega
      generalize hm : (a + b) / 2 = m at *
      have HM := Lib.hid hm
      obtain ⟨b1, b2⟩ := sq_b (r := m) (by omega) (by omega)
      by_cases c : m * m ≤ n
      · go_wp2
        go_round
        case rel => exact ⟨m, b, by rw [HM.out], rfl, by omega, by omega, by omega, c, h5⟩
        case measure => simp [intOf]; omega
      · go_wp2
        go_round
        case rel => exact ⟨a, m, rfl, by rw [HM.out], by omega, by omega, by omega, h4, by omega⟩
        case measure => simp [intOf]; omega
    · have e : rt n = a := rt_eq h1 h4 (by rw [show a + 1 = b by omega]; exact h5)
      have E2 := Lib.hid (show R = a by rw [← HR.out, e])
      clear e
      go_wp2
      go_ret
      exact same (vint E2.out.symm)
theorem frSquare_any (n : Int) (h0 : 0 ≤ n) (hn : n ≤ 4000000000000000000) (w : World) : Calls Tryz.prog 128 #[.int .i64 n] w (Same (.bool (sqB n)) w) := by
  have HR := Lib.hid (fun w => frRoot_any n h0 hn w)
  have hs : sqB n = (rt n * rt n == n) := by unfold sqB; simp [h0]
  have h1 := rt_nonneg n
  have h2 := rt_le h0
  have hb := sq_b (r := rt n) h1 (by have := sq_lt (a := rt n) (b := 2147483648) (by omega) (by omega); omega)
  have hw : wrap64 (rt n * rt n) = rt n * rt n := win (by omega)
  have HS := Lib.hid hs
  generalize rt n = r at *
  have b1 := hb.1
  have b2 := hb.2
  clear hs hw hb
  go_enter Tryz.func128, Tryz.ntmps128
  go_wp2_with (first | (go_at_call 123; refine (HR.out _).mono ?_; rintro e w1 ⟨rfl, rfl⟩))
  go_ret
  exact same (vbool HS.out.symm)
theorem dsc_b {a b : Int} (h1 : a.natAbs ≤ 1000) (h2 : b.natAbs ≤ 10000) : -6700000000 ≤ dsc a b ∧ dsc a b ≤ 6700000000 := by
  have t1 := abs_mul (abs_mul (abs_mul (show (4 : Int).natAbs ≤ 4 by decide) h1) h1) h1
  have t2 := abs_mul (abs_mul (show (27 : Int).natAbs ≤ 27 by decide) h2) h2
  unfold dsc
  generalize 4*a*a*a = X at *
  generalize 27*b*b = Y at *
  rw [win (by omega)]
  omega
def ptsX (x e n : Int) : List P3 := if sqB n = true then (if n = 0 then [(x, 0, e)] else [(x, -rt n, e), (x, rt n, e)]) else []
def cnd (a b x : Int) : List P3 := if cVal a b x 1 = 0 ∨ (dsc a b).tmod (cVal a b x 1) = 0 then ptsX x 1 (cVal a b x 1) else []
def cds (a b : Int) (k : Nat) : List P3 := (List.range k).flatMap fun (i : Nat) => cnd a b (-3000 + (i : Int))
theorem cds_succ (a b : Int) (k : Nat) : cds a b (k + 1) = cds a b k ++ cnd a b (-3000 + (k : Int)) := by
  unfold cds; rw [List.range_succ, List.flatMap_append]; simp
theorem ptsX_len (x e n : Int) : (ptsX x e n).length ≤ 2 := by unfold ptsX; split <;> (try split) <;> simp
theorem cnd_len (a b x : Int) : (cnd a b x).length ≤ 2 := by unfold cnd; split; exact ptsX_len _ _ _; simp
theorem cds_len (a b : Int) (k : Nat) : (cds a b k).length ≤ 2 * k := by
  induction k with
  | zero => simp [cds]
  | succ k ih => rw [cds_succ, List.length_append]; have := cnd_len a b (-3000 + (k : Int)); omega
theorem rt_zero_iff {n : Int} (h : sqB n = true) : rt n = 0 ↔ n = 0 := by
  obtain ⟨r, h0, h1⟩ := sqB_iff.1 h
  have e := rt_sq h0 h1
  rw [e]
  constructor
  · intro h2; rw [h2] at h1; omega
  · intro h2
    rcases Int.lt_or_le 0 r with g | g
    · have := Int.mul_pos g g; omega
    · omega
theorem sq_rt {n : Int} (h : sqB n = true) : rt n * rt n = n ∧ 0 ≤ n := by
  obtain ⟨r, h0, h1⟩ := sqB_iff.1 h
  rw [rt_sq h0 h1]; exact ⟨h1, by have := Int.mul_nonneg h0 h0; omega⟩
theorem ownP_lit1 (w : World) (p : P3) : OwnP (w.alloc (.cells #[.int .i64 p.1, .int .i64 p.2.1, .int .i64 p.2.2] 34)) w.heap.size (.slice (some ⟨w.heap.size, 0, none⟩) 1 1) [p] :=
  World.ownsRow_lit w #[.int .i64 p.1, .int .i64 p.2.1, .int .i64 p.2.2] 1 (Nat.le_refl _) (by unfold maxLen; omega) rfl
theorem ownP_lit2 (w : World) (p q : P3) : OwnP (w.alloc (.cells #[.int .i64 p.1, .int .i64 p.2.1, .int .i64 p.2.2, .int .i64 q.1, .int .i64 q.2.1, .int .i64 q.2.2] 34)) w.heap.size (.slice (some ⟨w.heap.size, 0, none⟩) 2 2) [p, q] :=
  World.ownsRow_lit w #[.int .i64 p.1, .int .i64 p.2.1, .int .i64 p.2.2, .int .i64 q.1, .int .i64 q.2.1, .int .i64 q.2.2] 2 (Nat.le_refl _) (by unfold maxLen; omega) rfl
theorem ptValue_any (a b x e : Int) (w : World) : Calls Tryz.prog 93 #[.agg #[.int .i64 a, .int .i64 b], .int .i64 x, .int .i64 e] w (Gives (.int .i64 (cVal a b x e)) w) := by
  go_enter Tryz.func93, Tryz.ntmps93
  go_wp2
  go_ret
  exact gives (vint (by simp only [cVal, wadd_l, wadd_r, wmul_l, wmul_r]; congr 1; grind)) gr
theorem ptAtX_any (a b x e : Int) (h1 : -4000000000000 ≤ cVal a b x e) (h2 : cVal a b x e ≤ 4000000000000) (w : World) : Calls Tryz.prog 95 #[.agg #[.int .i64 a, .int .i64 b], .int .i64 x, .int .i64 e] w (GivesP (ptsX x e (cVal a b x e)) w) := by
  have HV := Lib.hid (fun w => ptValue_any a b x e w)
  generalize cVal a b x e = V at *
  by_cases h0 : V < 0
  · have E := Lib.hid (show ptsX x e V = [] by unfold ptsX sqB; rw [if_neg (by simp; omega)])
    rw [E.out]
    go_enter Tryz.func95, Tryz.ntmps95
    go_wp2_with (first | (go_at_call 93; refine (HV.out _).mono ?_; rintro e wa ⟨rfl, hba⟩; have hza := hba.size; (try simp only [wz1, wz2, wz3, wz4] at hza); try (refine keepc hba (w.heap.size) ?_ ?_; (focus (first | omega | (simp <;> omega))); intro hca_0 hfa_0 hla_0); try (refine keepc hba (w.heap.size + 1) ?_ ?_; (focus (first | omega | (simp <;> omega))); intro hca_1 hfa_1 hla_1); try (refine keepc hba (w.heap.size + 1 + 1) ?_ ?_; (focus (first | omega | (simp <;> omega))); intro hca_2 hfa_2 hla_2)))
    go_ret
    exact ⟨none, 0, 0, rfl, OwnP.nil _ _, gr⟩
  · have HQ := fun w => frSquare_any V (by omega) (by omega) w
    have HR := fun w => frRoot_any V (by omega) (by omega) w
    have hr0 := rt_nonneg V
    have hr1 : rt V ≤ 2000001 := by
      have := rt_le (n := V) (by omega)
      have := sq_lt (a := rt V) (b := 2000001) (by omega) (by omega); omega
    cases g : sqB V
    · have E := Lib.hid (show ptsX x e V = [] by unfold ptsX; rw [if_neg (by simp [g])])
      rw [E.out]
      rw [g] at HQ
      have HQ := Lib.hid HQ
      clear HR g
      go_enter Tryz.func95, Tryz.ntmps95
      go_wp2_with (first | (go_at_call 93; refine (HV.out _).mono ?_; rintro e wa ⟨rfl, hba⟩; have hza := hba.size; (try simp only [wz1, wz2, wz3, wz4] at hza); try (refine keepc hba (w.heap.size) ?_ ?_; (focus (first | omega | (simp <;> omega))); intro hca_0 hfa_0 hla_0); try (refine keepc hba (w.heap.size + 1) ?_ ?_; (focus (first | omega | (simp <;> omega))); intro hca_1 hfa_1 hla_1); try (refine keepc hba (w.heap.size + 1 + 1) ?_ ?_; (focus (first | omega | (simp <;> omega))); intro hca_2 hfa_2 hla_2)) | (go_at_call 128; refine (HQ.out _).mono ?_; rintro e w1 ⟨rfl, rfl⟩))
      go_ret
      exact ⟨none, 0, 0, rfl, OwnP.nil _ _, gr⟩
    · rw [g] at HQ
      by_cases hz : V = 0
      · have E := Lib.hid (show ptsX x e V = [(x, 0, e)] by unfold ptsX; rw [if_pos g, if_pos hz])
        rw [E.out]
        have hz' : (V == 0) = true := by simpa using hz
        have HQ := Lib.hid HQ; have HR := Lib.hid HR
        clear g hz
        go_enter Tryz.func95, Tryz.ntmps95
        go_wp2_with (first | (go_at_call 93; refine (HV.out _).mono ?_; rintro e wa ⟨rfl, hba⟩; have hza := hba.size; (try simp only [wz1, wz2, wz3, wz4] at hza); try (refine keepc hba (w.heap.size) ?_ ?_; (focus (first | omega | (simp <;> omega))); intro hca_0 hfa_0 hla_0); try (refine keepc hba (w.heap.size + 1) ?_ ?_; (focus (first | omega | (simp <;> omega))); intro hca_1 hfa_1 hla_1); try (refine keepc hba (w.heap.size + 1 + 1) ?_ ?_; (focus (first | omega | (simp <;> omega))); intro hca_2 hfa_2 hla_2)) | (go_at_call 128; refine (HQ.out _).mono ?_; rintro e w1 ⟨rfl, rfl⟩))
        go_ret
        exact ⟨_, _, _, rfl, (ownP_lit1 _ (x, 0, e)).mono (by omega), gr⟩
      · have E := Lib.hid (show ptsX x e V = [(x, -rt V, e), (x, rt V, e)] by unfold ptsX; rw [if_pos g, if_neg hz])
        rw [E.out]
        have hz' : (V == 0) = false := by simpa using hz
        have HQ := Lib.hid HQ; have HR := Lib.hid HR
        generalize rt V = Y at *
        clear g hz
        go_enter Tryz.func95, Tryz.ntmps95
        go_wp2_with (first | (go_at_call 93; refine (HV.out _).mono ?_; rintro e wa ⟨rfl, hba⟩; have hza := hba.size; (try simp only [wz1, wz2, wz3, wz4] at hza); try (refine keepc hba (w.heap.size) ?_ ?_; (focus (first | omega | (simp <;> omega))); intro hca_0 hfa_0 hla_0); try (refine keepc hba (w.heap.size + 1) ?_ ?_; (focus (first | omega | (simp <;> omega))); intro hca_1 hfa_1 hla_1); try (refine keepc hba (w.heap.size + 1 + 1) ?_ ?_; (focus (first | omega | (simp <;> omega))); intro hca_2 hfa_2 hla_2)) | (go_at_call 128; refine (HQ.out _).mono ?_; rintro e w1 ⟨rfl, rfl⟩) | (go_at_call 123; refine (HR.out _).mono ?_; rintro e w1 ⟨rfl, rfl⟩))
        go_ret
        exact ⟨_, _, _, rfl, (ownP_lit2 _ (x, -Y, e) (x, Y, e)).mono (by omega), gr⟩
end Go.Proofs.YtjgdajeoeagggaaGreat
