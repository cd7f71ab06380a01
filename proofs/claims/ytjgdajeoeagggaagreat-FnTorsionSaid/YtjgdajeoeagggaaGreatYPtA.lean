import Derived.Test.YtjgdajeoeagggaaGreatYEcD
import Derived.Test.YtjgdajeoeagggaaGreatYK8
import Derived.Test.YtjgdajeoeagggaaGreatYK5
set_option linter.unusedSimpArgs false
set_option linter.unusedVariables false
namespace Go.Proofs.YtjgdajeoeagggaaGreat
open Go.RowKit
/-! ### the reference's sum of points -/
theorem low_spec {a b : Int} (h : b ≠ 0) : a.tdiv (mkD a b) * mkD a b = a ∧ b.tdiv (mkD a b) * mkD a b = b ∧ 0 < b.tdiv (mkD a b) ∧ Int.gcd (a.tdiv (mkD a b)) (b.tdiv (mkD a b)) = 1 := by
  have g1 := gcd_ne a b h
  have ha : ((Int.gcd a b : Nat) : Int) ∣ a := Int.gcd_dvd_left ..
  have hb : ((Int.gcd a b : Nat) : Int) ∣ b := Int.gcd_dvd_right ..
  obtain ⟨p, hp⟩ := ha
  obtain ⟨q, hq⟩ := hb
  have hpq : Int.gcd p q = 1 := by
    have h1 : Int.gcd (((Int.gcd a b : Nat) : Int) * p) (((Int.gcd a b : Nat) : Int) * q) = Int.gcd a b := by rw [← hp, ← hq]
    rw [Int.gcd_mul_left, Int.natAbs_natCast] at h1
    exact Nat.eq_of_mul_eq_mul_left (show 0 < Int.gcd a b from g1) (by rw [h1, Nat.mul_one])
  generalize hG : ((Int.gcd a b : Nat) : Int) = G at *
  have hG1 : 1 ≤ G := by omega
  by_cases hs : b < 0
  · have hd : mkD a b = -G := by unfold mkD; rw [if_pos hs, hG]
    have e1 : a.tdiv (mkD a b) = -p := by rw [hd, hp, Int.tdiv_neg, Int.mul_tdiv_cancel_left _ (by omega)]
    have e2 : b.tdiv (mkD a b) = -q := by rw [hd, hq, Int.tdiv_neg, Int.mul_tdiv_cancel_left _ (by omega)]
    rw [e1, e2, hd]
    refine ⟨by rw [hp]; grind, by rw [hq]; grind, ?_, by rw [Int.gcd_neg, Int.neg_gcd]; exact hpq⟩
    rcases Int.lt_or_le q 0 with g | g
    · omega
    · have := Int.mul_nonneg (show 0 ≤ G by omega) g; omega
  · have hd : mkD a b = G := by unfold mkD; rw [if_neg hs, hG]
    have e1 : a.tdiv (mkD a b) = p := by rw [hd, hp, Int.mul_tdiv_cancel_left _ (by omega)]
    have e2 : b.tdiv (mkD a b) = q := by rw [hd, hq, Int.mul_tdiv_cancel_left _ (by omega)]
    rw [e1, e2, hd]
    refine ⟨by rw [hp]; grind, by rw [hq]; grind, ?_, hpq⟩
    rcases Int.lt_or_le 0 q with g | g
    · exact g
    · have := Int.mul_nonneg (show 0 ≤ G by omega) (show 0 ≤ -q by omega)
      have e : G * -q = -(G * q) := by grind
      omega
set_option maxHeartbeats 4000000 in
theorem ecPart_any (a b : Int) (h0 : b ≠ 0) (a1 : -9223372036854775807 ≤ a) (a2 : a ≤ 9223372036854775807) (a3 : -9223372036854775807 ≤ b) (a4 : b ≤ 9223372036854775807) (w : World) :
    Calls Tryz.prog 122 #[.int .i64 a, .int .i64 b] w (Gives (.tuple #[.int .i64 (a.tdiv (mkD a b)), .int .i64 (b.tdiv (mkD a b))]) w) := by
  have g1 := gcd_ne a b h0
  have g2 := gcd_le a b h0
  have HA := Lib.hid (show ∀ w, Calls Tryz.prog 94 #[.int .i64 a] w (Same (.int .i64 (max a (-a))) w) from fun w => by have := l1Abs_any a w; rwa [win (n := -a) (by omega)] at this)
  have HB := Lib.hid (show ∀ w, Calls Tryz.prog 94 #[.int .i64 b] w (Same (.int .i64 (max b (-b))) w) from fun w => by have := l1Abs_any b w; rwa [win (n := -b) (by omega)] at this)
  have eg : Int.gcd (max a (-a)) (max b (-b)) = Int.gcd a b := by
    unfold Int.gcd
    rw [show (max a (-a)).natAbs = a.natAbs by omega, show (max b (-b)).natAbs = b.natAbs by omega]
  have HC := Lib.hid (fun w => bgCommon_any (max a (-a)) (max b (-b)) (by omega) (by omega) w)
  rw [eg] at HC
  clear eg
  have b1 := tdiv_bd a (mkD a b)
  have b2 := tdiv_bd b (mkD a b)
  have c1 : -9223372036854775808 ≤ a.tdiv (mkD a b) := by omega
  have c2 : a.tdiv (mkD a b) ≤ 9223372036854775807 := by omega
  have c3 : -9223372036854775808 ≤ b.tdiv (mkD a b) := by omega
  have c4 : b.tdiv (mkD a b) ≤ 9223372036854775807 := by omega
  by_cases hs : b < 0
  case pos =>
    have hd : mkD a b = -((Int.gcd a b : Nat) : Int) := by unfold mkD; rw [if_pos hs]
    rw [hd] at c1 c2 c3 c4 ⊢
    simp only [Int.tdiv_neg] at c1 c2 c3 c4 ⊢
    generalize Int.gcd a b = G at *
    generalize max a (-a) = M1 at *; generalize max b (-b) = M2 at *
    clear b1 b2 hd
    have k0 : (-(G : Int) == 0) = false := by simp; omega
    have k1 : ((G : Int) == 0) = false := by simp; omega
    have k2 : (G == 0) = false := by simp; omega
    have k3 : ¬ G = 0 := by omega
    go_enter Tryz.func122, Tryz.ntmps122
    go_wp2_with (first | (go_at_call 58; refine (HC.out _).mono ?_; rintro e w1 ⟨rfl, rfl⟩) | (go_at_call_of 94 (Value.int IntKind.i64 a); refine (HA.out _).mono ?_; rintro e w1 ⟨rfl, rfl⟩) | (go_at_call_of 94 (Value.int IntKind.i64 b); refine (HB.out _).mono ?_; rintro e w1 ⟨rfl, rfl⟩))
    go_region
    go_wp2
    go_ret2
    exact gives rfl gr
  case neg =>
    have hd : mkD a b = ((Int.gcd a b : Nat) : Int) := by unfold mkD; rw [if_neg hs]
    rw [hd] at c1 c2 c3 c4 ⊢
    generalize Int.gcd a b = G at *
    generalize max a (-a) = M1 at *; generalize max b (-b) = M2 at *
    clear b1 b2 hd
    have k0 : ((G : Int) == 0) = false := by simp; omega
    have k2 : (G == 0) = false := by simp; omega
    have k3 : ¬ G = 0 := by omega
    go_enter Tryz.func122, Tryz.ntmps122
    go_wp2_with (first | (go_at_call 58; refine (HC.out _).mono ?_; rintro e w1 ⟨rfl, rfl⟩) | (go_at_call_of 94 (Value.int IntKind.i64 a); refine (HA.out _).mono ?_; rintro e w1 ⟨rfl, rfl⟩) | (go_at_call_of 94 (Value.int IntKind.i64 b); refine (HB.out _).mono ?_; rintro e w1 ⟨rfl, rfl⟩))
    go_region
    go_wp2
    go_ret2
    exact gives rfl gr
def psV (A : Int) (p q : P3) : Value := if EC.sD p q = 0 then .tuple #[.int .i64 1, .int .i64 0] else .tuple #[.int .i64 ((EC.sN A p q).tdiv (mkD (EC.sN A p q) (EC.sD p q))), .int .i64 ((EC.sD p q).tdiv (mkD (EC.sN A p q) (EC.sD p q)))]
set_option maxHeartbeats 4000000 in
theorem ptSlope_x (A B x1 y1 e1 x2 y2 e2 : Int) (hne : ¬ x1 = x2) (r1 : -9223372036854775807 ≤ EC.sN A (x1, y1, e1) (x2, y2, e2)) (r2 : EC.sN A (x1, y1, e1) (x2, y2, e2) ≤ 9223372036854775807) (r3 : -9223372036854775807 ≤ EC.sD (x1, y1, e1) (x2, y2, e2)) (r4 : EC.sD (x1, y1, e1) (x2, y2, e2) ≤ 9223372036854775807) (w : World) :
    Calls Tryz.prog 121 #[.agg #[.int .i64 A, .int .i64 B], .agg #[.int .i64 x1, .int .i64 y1, .int .i64 e1], .agg #[.int .i64 x2, .int .i64 y2, .int .i64 e2]] w (Gives (psV A (x1, y1, e1) (x2, y2, e2)) w) := by
  have hpq : ¬ (x1, y1, e1) = (x2, y2, e2) := by simp only [Prod.mk.injEq]; intro h; apply hne; exact h.1
  have hne2 : (x1 == x2) = false := by simpa using hne
  have kN : wrap64 (wrap64 (wrap64 (wrap64 (y2 * e1) * e1) * e1) - wrap64 (wrap64 (wrap64 (y1 * e2) * e2) * e2)) = EC.sN A (x1, y1, e1) (x2, y2, e2) := by
    have e : wrap64 (wrap64 (wrap64 (wrap64 (y2 * e1) * e1) * e1) - wrap64 (wrap64 (wrap64 (y1 * e2) * e2) * e2)) = wrap64 (EC.sN A (x1, y1, e1) (x2, y2, e2)) := by unfold EC.sN; rw [if_neg hpq]; simp only [wadd_l, wadd_r, wsub_l, wsub_r, wmul_l, wmul_r]
    rw [e, win (by omega)]
  have kD : wrap64 (wrap64 (e1 * e2) * wrap64 (wrap64 (wrap64 (x2 * e1) * e1) - wrap64 (wrap64 (x1 * e2) * e2))) = EC.sD (x1, y1, e1) (x2, y2, e2) := by
    have e : wrap64 (wrap64 (e1 * e2) * wrap64 (wrap64 (wrap64 (x2 * e1) * e1) - wrap64 (wrap64 (x1 * e2) * e2))) = wrap64 (EC.sD (x1, y1, e1) (x2, y2, e2)) := by unfold EC.sD; rw [if_neg hpq]; simp only [wadd_l, wadd_r, wsub_l, wsub_r, wmul_l, wmul_r]
    rw [e, win (by omega)]
  have HE := Lib.hid (fun h w => ecPart_any (EC.sN A (x1, y1, e1) (x2, y2, e2)) (EC.sD (x1, y1, e1) (x2, y2, e2)) h r1 r2 r3 r4 w)
  unfold psV
  generalize EC.sN A (x1, y1, e1) (x2, y2, e2) = N at *
  generalize EC.sD (x1, y1, e1) (x2, y2, e2) = M at *
  clear r1 r2 r3 r4 hpq
  by_cases h0 : M = 0
  · subst h0
    rw [if_pos rfl]
    have hz : (wrap64 (wrap64 (e1 * e2) * wrap64 (wrap64 (wrap64 (x2 * e1) * e1) - wrap64 (wrap64 (x1 * e2) * e2))) == 0) = true := by rw [kD]; rfl
    clear HE
    go_enter Tryz.func121, Tryz.ntmps121
    go_wp2
    go_ret2
    exact gives rfl gr
  · rw [if_neg h0]
    have hz : (wrap64 (wrap64 (e1 * e2) * wrap64 (wrap64 (wrap64 (x2 * e1) * e1) - wrap64 (wrap64 (x1 * e2) * e2))) == 0) = false := by rw [kD]; simpa using h0
    have HC := Lib.hid (HE.out h0)
    clear HE h0
    go_enter Tryz.func121, Tryz.ntmps121
    go_wp2_with fail
    rw [kN, kD]
    refine (HC.out _).mono ?_
    rintro e wa ⟨rfl, hba⟩; have hza := hba.size; (try simp only [wz1, wz2, wz3, wz4] at hza); try (refine keepc hba (w.heap.size) ?_ ?_; (focus (first | omega | (simp <;> omega))); intro hca_0 hfa_0 hla_0); try (refine keepc hba (w.heap.size + 1) ?_ ?_; (focus (first | omega | (simp <;> omega))); intro hca_1 hfa_1 hla_1); try (refine keepc hba (w.heap.size + 1 + 1) ?_ ?_; (focus (first | omega | (simp <;> omega))); intro hca_2 hfa_2 hla_2)
    go_wp2
    go_ret2
    exact gives rfl gr
set_option maxHeartbeats 4000000 in
theorem ptSlope_y (A B x1 y1 e1 y2 e2 : Int) (hne : ¬ y1 = y2) (r1 : -9223372036854775807 ≤ EC.sN A (x1, y1, e1) (x1, y2, e2)) (r2 : EC.sN A (x1, y1, e1) (x1, y2, e2) ≤ 9223372036854775807) (r3 : -9223372036854775807 ≤ EC.sD (x1, y1, e1) (x1, y2, e2)) (r4 : EC.sD (x1, y1, e1) (x1, y2, e2) ≤ 9223372036854775807) (w : World) :
    Calls Tryz.prog 121 #[.agg #[.int .i64 A, .int .i64 B], .agg #[.int .i64 x1, .int .i64 y1, .int .i64 e1], .agg #[.int .i64 x1, .int .i64 y2, .int .i64 e2]] w (Gives (psV A (x1, y1, e1) (x1, y2, e2)) w) := by
  have hpq : ¬ (x1, y1, e1) = (x1, y2, e2) := by simp only [Prod.mk.injEq]; intro h; apply hne; exact h.2.1
  have hne2 : (y1 == y2) = false := by simpa using hne
  have kN : wrap64 (wrap64 (wrap64 (wrap64 (y2 * e1) * e1) * e1) - wrap64 (wrap64 (wrap64 (y1 * e2) * e2) * e2)) = EC.sN A (x1, y1, e1) (x1, y2, e2) := by
    have e : wrap64 (wrap64 (wrap64 (wrap64 (y2 * e1) * e1) * e1) - wrap64 (wrap64 (wrap64 (y1 * e2) * e2) * e2)) = wrap64 (EC.sN A (x1, y1, e1) (x1, y2, e2)) := by unfold EC.sN; rw [if_neg hpq]; simp only [wadd_l, wadd_r, wsub_l, wsub_r, wmul_l, wmul_r]
    rw [e, win (by omega)]
  have kD : wrap64 (wrap64 (e1 * e2) * wrap64 (wrap64 (wrap64 (x1 * e1) * e1) - wrap64 (wrap64 (x1 * e2) * e2))) = EC.sD (x1, y1, e1) (x1, y2, e2) := by
    have e : wrap64 (wrap64 (e1 * e2) * wrap64 (wrap64 (wrap64 (x1 * e1) * e1) - wrap64 (wrap64 (x1 * e2) * e2))) = wrap64 (EC.sD (x1, y1, e1) (x1, y2, e2)) := by unfold EC.sD; rw [if_neg hpq]; simp only [wadd_l, wadd_r, wsub_l, wsub_r, wmul_l, wmul_r]
    rw [e, win (by omega)]
  have HE := Lib.hid (fun h w => ecPart_any (EC.sN A (x1, y1, e1) (x1, y2, e2)) (EC.sD (x1, y1, e1) (x1, y2, e2)) h r1 r2 r3 r4 w)
  unfold psV
  generalize EC.sN A (x1, y1, e1) (x1, y2, e2) = N at *
  generalize EC.sD (x1, y1, e1) (x1, y2, e2) = M at *
  clear r1 r2 r3 r4 hpq
  by_cases h0 : M = 0
  · subst h0
    rw [if_pos rfl]
    have hz : (wrap64 (wrap64 (e1 * e2) * wrap64 (wrap64 (wrap64 (x1 * e1) * e1) - wrap64 (wrap64 (x1 * e2) * e2))) == 0) = true := by rw [kD]; rfl
    clear HE
    go_enter Tryz.func121, Tryz.ntmps121
    go_wp2
    go_ret2
    exact gives rfl gr
  · rw [if_neg h0]
    have hz : (wrap64 (wrap64 (e1 * e2) * wrap64 (wrap64 (wrap64 (x1 * e1) * e1) - wrap64 (wrap64 (x1 * e2) * e2))) == 0) = false := by rw [kD]; simpa using h0
    have HC := Lib.hid (HE.out h0)
    clear HE h0
    go_enter Tryz.func121, Tryz.ntmps121
    go_wp2_with fail
    rw [kN, kD]
    refine (HC.out _).mono ?_
    rintro e wa ⟨rfl, hba⟩; have hza := hba.size; (try simp only [wz1, wz2, wz3, wz4] at hza); try (refine keepc hba (w.heap.size) ?_ ?_; (focus (first | omega | (simp <;> omega))); intro hca_0 hfa_0 hla_0); try (refine keepc hba (w.heap.size + 1) ?_ ?_; (focus (first | omega | (simp <;> omega))); intro hca_1 hfa_1 hla_1); try (refine keepc hba (w.heap.size + 1 + 1) ?_ ?_; (focus (first | omega | (simp <;> omega))); intro hca_2 hfa_2 hla_2)
    go_wp2
    go_ret2
    exact gives rfl gr
set_option maxHeartbeats 4000000 in
theorem ptSlope_e (A B x1 y1 e1 e2 : Int) (hne : ¬ e1 = e2) (r1 : -9223372036854775807 ≤ EC.sN A (x1, y1, e1) (x1, y1, e2)) (r2 : EC.sN A (x1, y1, e1) (x1, y1, e2) ≤ 9223372036854775807) (r3 : -9223372036854775807 ≤ EC.sD (x1, y1, e1) (x1, y1, e2)) (r4 : EC.sD (x1, y1, e1) (x1, y1, e2) ≤ 9223372036854775807) (w : World) :
    Calls Tryz.prog 121 #[.agg #[.int .i64 A, .int .i64 B], .agg #[.int .i64 x1, .int .i64 y1, .int .i64 e1], .agg #[.int .i64 x1, .int .i64 y1, .int .i64 e2]] w (Gives (psV A (x1, y1, e1) (x1, y1, e2)) w) := by
  have hpq : ¬ (x1, y1, e1) = (x1, y1, e2) := by simp only [Prod.mk.injEq]; intro h; apply hne; exact h.2.2
  have hne2 : (e1 == e2) = false := by simpa using hne
  have kN : wrap64 (wrap64 (wrap64 (wrap64 (y1 * e1) * e1) * e1) - wrap64 (wrap64 (wrap64 (y1 * e2) * e2) * e2)) = EC.sN A (x1, y1, e1) (x1, y1, e2) := by
    have e : wrap64 (wrap64 (wrap64 (wrap64 (y1 * e1) * e1) * e1) - wrap64 (wrap64 (wrap64 (y1 * e2) * e2) * e2)) = wrap64 (EC.sN A (x1, y1, e1) (x1, y1, e2)) := by unfold EC.sN; rw [if_neg hpq]; simp only [wadd_l, wadd_r, wsub_l, wsub_r, wmul_l, wmul_r]
    rw [e, win (by omega)]
  have kD : wrap64 (wrap64 (e1 * e2) * wrap64 (wrap64 (wrap64 (x1 * e1) * e1) - wrap64 (wrap64 (x1 * e2) * e2))) = EC.sD (x1, y1, e1) (x1, y1, e2) := by
    have e : wrap64 (wrap64 (e1 * e2) * wrap64 (wrap64 (wrap64 (x1 * e1) * e1) - wrap64 (wrap64 (x1 * e2) * e2))) = wrap64 (EC.sD (x1, y1, e1) (x1, y1, e2)) := by unfold EC.sD; rw [if_neg hpq]; simp only [wadd_l, wadd_r, wsub_l, wsub_r, wmul_l, wmul_r]
    rw [e, win (by omega)]
  have HE := Lib.hid (fun h w => ecPart_any (EC.sN A (x1, y1, e1) (x1, y1, e2)) (EC.sD (x1, y1, e1) (x1, y1, e2)) h r1 r2 r3 r4 w)
  unfold psV
  generalize EC.sN A (x1, y1, e1) (x1, y1, e2) = N at *
  generalize EC.sD (x1, y1, e1) (x1, y1, e2) = M at *
  clear r1 r2 r3 r4 hpq
  by_cases h0 : M = 0
  · subst h0
    rw [if_pos rfl]
    have hz : (wrap64 (wrap64 (e1 * e2) * wrap64 (wrap64 (wrap64 (x1 * e1) * e1) - wrap64 (wrap64 (x1 * e2) * e2))) == 0) = true := by rw [kD]; rfl
    clear HE
    go_enter Tryz.func121, Tryz.ntmps121
    go_wp2
    go_ret2
    exact gives rfl gr
  · rw [if_neg h0]
    have hz : (wrap64 (wrap64 (e1 * e2) * wrap64 (wrap64 (wrap64 (x1 * e1) * e1) - wrap64 (wrap64 (x1 * e2) * e2))) == 0) = false := by rw [kD]; simpa using h0
    have HC := Lib.hid (HE.out h0)
    clear HE h0
    go_enter Tryz.func121, Tryz.ntmps121
    go_wp2_with fail
    rw [kN, kD]
    refine (HC.out _).mono ?_
    rintro e wa ⟨rfl, hba⟩; have hza := hba.size; (try simp only [wz1, wz2, wz3, wz4] at hza); try (refine keepc hba (w.heap.size) ?_ ?_; (focus (first | omega | (simp <;> omega))); intro hca_0 hfa_0 hla_0); try (refine keepc hba (w.heap.size + 1) ?_ ?_; (focus (first | omega | (simp <;> omega))); intro hca_1 hfa_1 hla_1); try (refine keepc hba (w.heap.size + 1 + 1) ?_ ?_; (focus (first | omega | (simp <;> omega))); intro hca_2 hfa_2 hla_2)
    go_wp2
    go_ret2
    exact gives rfl gr
set_option maxHeartbeats 4000000 in
theorem ptSlope_q (A B x1 y1 e1 : Int) (r1 : -9223372036854775807 ≤ EC.sN A (x1, y1, e1) (x1, y1, e1)) (r2 : EC.sN A (x1, y1, e1) (x1, y1, e1) ≤ 9223372036854775807) (r3 : -9223372036854775807 ≤ EC.sD (x1, y1, e1) (x1, y1, e1)) (r4 : EC.sD (x1, y1, e1) (x1, y1, e1) ≤ 9223372036854775807) (w : World) :
    Calls Tryz.prog 121 #[.agg #[.int .i64 A, .int .i64 B], .agg #[.int .i64 x1, .int .i64 y1, .int .i64 e1], .agg #[.int .i64 x1, .int .i64 y1, .int .i64 e1]] w (Gives (psV A (x1, y1, e1) (x1, y1, e1)) w) := by
  have kN : wrap64 (wrap64 (wrap64 (3 * x1) * x1) + wrap64 (wrap64 (wrap64 (wrap64 (A * e1) * e1) * e1) * e1)) = EC.sN A (x1, y1, e1) (x1, y1, e1) := by
    have e : wrap64 (wrap64 (wrap64 (3 * x1) * x1) + wrap64 (wrap64 (wrap64 (wrap64 (A * e1) * e1) * e1) * e1)) = wrap64 (EC.sN A (x1, y1, e1) (x1, y1, e1)) := by unfold EC.sN; rw [if_pos rfl]; simp only [wadd_l, wadd_r, wsub_l, wsub_r, wmul_l, wmul_r]
    rw [e, win (by omega)]
  have kD : wrap64 (wrap64 (2 * y1) * e1) = EC.sD (x1, y1, e1) (x1, y1, e1) := by
    have e : wrap64 (wrap64 (2 * y1) * e1) = wrap64 (EC.sD (x1, y1, e1) (x1, y1, e1)) := by unfold EC.sD; rw [if_pos rfl]; simp only [wadd_l, wadd_r, wsub_l, wsub_r, wmul_l, wmul_r]
    rw [e, win (by omega)]
  have HE := Lib.hid (fun h w => ecPart_any (EC.sN A (x1, y1, e1) (x1, y1, e1)) (EC.sD (x1, y1, e1) (x1, y1, e1)) h r1 r2 r3 r4 w)
  unfold psV
  generalize EC.sN A (x1, y1, e1) (x1, y1, e1) = N at *
  generalize EC.sD (x1, y1, e1) (x1, y1, e1) = M at *
  clear r1 r2 r3 r4
  by_cases h0 : M = 0
  · subst h0
    rw [if_pos rfl]
    have hz : (wrap64 (wrap64 (2 * y1) * e1) == 0) = true := by rw [kD]; rfl
    clear HE
    go_enter Tryz.func121, Tryz.ntmps121
    go_wp2
    go_ret2
    exact gives rfl gr
  · rw [if_neg h0]
    have hz : (wrap64 (wrap64 (2 * y1) * e1) == 0) = false := by rw [kD]; simpa using h0
    have HC := Lib.hid (HE.out h0)
    clear HE h0
    go_enter Tryz.func121, Tryz.ntmps121
    go_wp2_with fail
    rw [kN, kD]
    refine (HC.out _).mono ?_
    rintro e wa ⟨rfl, hba⟩; have hza := hba.size; (try simp only [wz1, wz2, wz3, wz4] at hza); try (refine keepc hba (w.heap.size) ?_ ?_; (focus (first | omega | (simp <;> omega))); intro hca_0 hfa_0 hla_0); try (refine keepc hba (w.heap.size + 1) ?_ ?_; (focus (first | omega | (simp <;> omega))); intro hca_1 hfa_1 hla_1); try (refine keepc hba (w.heap.size + 1 + 1) ?_ ?_; (focus (first | omega | (simp <;> omega))); intro hca_2 hfa_2 hla_2)
    go_wp2
    go_ret2
    exact gives rfl gr
theorem ptSlope_any (A B x1 y1 e1 x2 y2 e2 : Int) (r1 : -9223372036854775807 ≤ EC.sN A (x1, y1, e1) (x2, y2, e2)) (r2 : EC.sN A (x1, y1, e1) (x2, y2, e2) ≤ 9223372036854775807) (r3 : -9223372036854775807 ≤ EC.sD (x1, y1, e1) (x2, y2, e2)) (r4 : EC.sD (x1, y1, e1) (x2, y2, e2) ≤ 9223372036854775807) (w : World) :
    Calls Tryz.prog 121 #[.agg #[.int .i64 A, .int .i64 B], .agg #[.int .i64 x1, .int .i64 y1, .int .i64 e1], .agg #[.int .i64 x2, .int .i64 y2, .int .i64 e2]] w (Gives (psV A (x1, y1, e1) (x2, y2, e2)) w) := by
  by_cases g1 : x1 = x2
  · subst g1
    by_cases g2 : y1 = y2
    · subst g2
      by_cases g3 : e1 = e2
      · subst g3; exact ptSlope_q A B x1 y1 e1 r1 r2 r3 r4 w
      · exact ptSlope_e A B x1 y1 e1 e2 g3 r1 r2 r3 r4 w
    · exact ptSlope_y A B x1 y1 e1 y2 e2 g2 r1 r2 r3 r4 w
  · exact ptSlope_x A B x1 y1 e1 x2 y2 e2 g1 r1 r2 r3 r4 w
def slV (A : Int) (p q : P3) : Value := .tuple #[.int .i64 (EC.sN A p q), .int .i64 (EC.sD p q)]
set_option maxHeartbeats 4000000 in
theorem slope_x (A B x1 y1 e1 x2 y2 e2 : Int) (hne : ¬ x1 = x2) (r1 : -9223372036854775807 ≤ EC.sN A (x1, y1, e1) (x2, y2, e2)) (r2 : EC.sN A (x1, y1, e1) (x2, y2, e2) ≤ 9223372036854775807) (r3 : -9223372036854775807 ≤ EC.sD (x1, y1, e1) (x2, y2, e2)) (r4 : EC.sD (x1, y1, e1) (x2, y2, e2) ≤ 9223372036854775807) (w : World) :
    Calls Tryz.prog 114 #[.agg #[.int .i64 A, .int .i64 B], .agg #[.int .i64 x1, .int .i64 y1, .int .i64 e1], .agg #[.int .i64 x2, .int .i64 y2, .int .i64 e2]] w (Gives (slV A (x1, y1, e1) (x2, y2, e2)) w) := by
  have hpq : ¬ (x1, y1, e1) = (x2, y2, e2) := by simp only [Prod.mk.injEq]; intro h; apply hne; exact h.1
  have hne2 : (x1 == x2) = false := by simpa using hne
  have kN : wrap64 (wrap64 (wrap64 (wrap64 (y2 * e1) * e1) * e1) - wrap64 (wrap64 (wrap64 (y1 * e2) * e2) * e2)) = EC.sN A (x1, y1, e1) (x2, y2, e2) := by
    have e : wrap64 (wrap64 (wrap64 (wrap64 (y2 * e1) * e1) * e1) - wrap64 (wrap64 (wrap64 (y1 * e2) * e2) * e2)) = wrap64 (EC.sN A (x1, y1, e1) (x2, y2, e2)) := by unfold EC.sN; rw [if_neg hpq]; simp only [wadd_l, wadd_r, wsub_l, wsub_r, wmul_l, wmul_r]
    rw [e, win (by omega)]
  have kD : wrap64 (wrap64 (e1 * e2) * wrap64 (wrap64 (wrap64 (x2 * e1) * e1) - wrap64 (wrap64 (x1 * e2) * e2))) = EC.sD (x1, y1, e1) (x2, y2, e2) := by
    have e : wrap64 (wrap64 (e1 * e2) * wrap64 (wrap64 (wrap64 (x2 * e1) * e1) - wrap64 (wrap64 (x1 * e2) * e2))) = wrap64 (EC.sD (x1, y1, e1) (x2, y2, e2)) := by unfold EC.sD; rw [if_neg hpq]; simp only [wadd_l, wadd_r, wsub_l, wsub_r, wmul_l, wmul_r]
    rw [e, win (by omega)]
  unfold slV
  generalize EC.sN A (x1, y1, e1) (x2, y2, e2) = N at *
  generalize EC.sD (x1, y1, e1) (x2, y2, e2) = M at *
  clear r1 r2 r3 r4 hpq
  go_enter Tryz.func114, Tryz.ntmps114
  go_wp2
  rw [← kN, ← kD]
  go_ret2
  exact gives rfl gr
set_option maxHeartbeats 4000000 in
theorem slope_y (A B x1 y1 e1 y2 e2 : Int) (hne : ¬ y1 = y2) (r1 : -9223372036854775807 ≤ EC.sN A (x1, y1, e1) (x1, y2, e2)) (r2 : EC.sN A (x1, y1, e1) (x1, y2, e2) ≤ 9223372036854775807) (r3 : -9223372036854775807 ≤ EC.sD (x1, y1, e1) (x1, y2, e2)) (r4 : EC.sD (x1, y1, e1) (x1, y2, e2) ≤ 9223372036854775807) (w : World) :
    Calls Tryz.prog 114 #[.agg #[.int .i64 A, .int .i64 B], .agg #[.int .i64 x1, .int .i64 y1, .int .i64 e1], .agg #[.int .i64 x1, .int .i64 y2, .int .i64 e2]] w (Gives (slV A (x1, y1, e1) (x1, y2, e2)) w) := by
  have hpq : ¬ (x1, y1, e1) = (x1, y2, e2) := by simp only [Prod.mk.injEq]; intro h; apply hne; exact h.2.1
  have hne2 : (y1 == y2) = false := by simpa using hne
  have kN : wrap64 (wrap64 (wrap64 (wrap64 (y2 * e1) * e1) * e1) - wrap64 (wrap64 (wrap64 (y1 * e2) * e2) * e2)) = EC.sN A (x1, y1, e1) (x1, y2, e2) := by
    have e : wrap64 (wrap64 (wrap64 (wrap64 (y2 * e1) * e1) * e1) - wrap64 (wrap64 (wrap64 (y1 * e2) * e2) * e2)) = wrap64 (EC.sN A (x1, y1, e1) (x1, y2, e2)) := by unfold EC.sN; rw [if_neg hpq]; simp only [wadd_l, wadd_r, wsub_l, wsub_r, wmul_l, wmul_r]
    rw [e, win (by omega)]
  have kD : wrap64 (wrap64 (e1 * e2) * wrap64 (wrap64 (wrap64 (x1 * e1) * e1) - wrap64 (wrap64 (x1 * e2) * e2))) = EC.sD (x1, y1, e1) (x1, y2, e2) := by
    have e : wrap64 (wrap64 (e1 * e2) * wrap64 (wrap64 (wrap64 (x1 * e1) * e1) - wrap64 (wrap64 (x1 * e2) * e2))) = wrap64 (EC.sD (x1, y1, e1) (x1, y2, e2)) := by unfold EC.sD; rw [if_neg hpq]; simp only [wadd_l, wadd_r, wsub_l, wsub_r, wmul_l, wmul_r]
    rw [e, win (by omega)]
  unfold slV
  generalize EC.sN A (x1, y1, e1) (x1, y2, e2) = N at *
  generalize EC.sD (x1, y1, e1) (x1, y2, e2) = M at *
  clear r1 r2 r3 r4 hpq
  go_enter Tryz.func114, Tryz.ntmps114
  go_wp2
  rw [← kN, ← kD]
  go_ret2
  exact gives rfl gr
set_option maxHeartbeats 4000000 in
theorem slope_e (A B x1 y1 e1 e2 : Int) (hne : ¬ e1 = e2) (r1 : -9223372036854775807 ≤ EC.sN A (x1, y1, e1) (x1, y1, e2)) (r2 : EC.sN A (x1, y1, e1) (x1, y1, e2) ≤ 9223372036854775807) (r3 : -9223372036854775807 ≤ EC.sD (x1, y1, e1) (x1, y1, e2)) (r4 : EC.sD (x1, y1, e1) (x1, y1, e2) ≤ 9223372036854775807) (w : World) :
    Calls Tryz.prog 114 #[.agg #[.int .i64 A, .int .i64 B], .agg #[.int .i64 x1, .int .i64 y1, .int .i64 e1], .agg #[.int .i64 x1, .int .i64 y1, .int .i64 e2]] w (Gives (slV A (x1, y1, e1) (x1, y1, e2)) w) := by
  have hpq : ¬ (x1, y1, e1) = (x1, y1, e2) := by simp only [Prod.mk.injEq]; intro h; apply hne; exact h.2.2
  have hne2 : (e1 == e2) = false := by simpa using hne
  have kN : wrap64 (wrap64 (wrap64 (wrap64 (y1 * e1) * e1) * e1) - wrap64 (wrap64 (wrap64 (y1 * e2) * e2) * e2)) = EC.sN A (x1, y1, e1) (x1, y1, e2) := by
    have e : wrap64 (wrap64 (wrap64 (wrap64 (y1 * e1) * e1) * e1) - wrap64 (wrap64 (wrap64 (y1 * e2) * e2) * e2)) = wrap64 (EC.sN A (x1, y1, e1) (x1, y1, e2)) := by unfold EC.sN; rw [if_neg hpq]; simp only [wadd_l, wadd_r, wsub_l, wsub_r, wmul_l, wmul_r]
    rw [e, win (by omega)]
  have kD : wrap64 (wrap64 (e1 * e2) * wrap64 (wrap64 (wrap64 (x1 * e1) * e1) - wrap64 (wrap64 (x1 * e2) * e2))) = EC.sD (x1, y1, e1) (x1, y1, e2) := by
    have e : wrap64 (wrap64 (e1 * e2) * wrap64 (wrap64 (wrap64 (x1 * e1) * e1) - wrap64 (wrap64 (x1 * e2) * e2))) = wrap64 (EC.sD (x1, y1, e1) (x1, y1, e2)) := by unfold EC.sD; rw [if_neg hpq]; simp only [wadd_l, wadd_r, wsub_l, wsub_r, wmul_l, wmul_r]
    rw [e, win (by omega)]
  unfold slV
  generalize EC.sN A (x1, y1, e1) (x1, y1, e2) = N at *
  generalize EC.sD (x1, y1, e1) (x1, y1, e2) = M at *
  clear r1 r2 r3 r4 hpq
  go_enter Tryz.func114, Tryz.ntmps114
  go_wp2
  rw [← kN, ← kD]
  go_ret2
  exact gives rfl gr
set_option maxHeartbeats 4000000 in
theorem slope_q (A B x1 y1 e1 : Int) (r1 : -9223372036854775807 ≤ EC.sN A (x1, y1, e1) (x1, y1, e1)) (r2 : EC.sN A (x1, y1, e1) (x1, y1, e1) ≤ 9223372036854775807) (r3 : -9223372036854775807 ≤ EC.sD (x1, y1, e1) (x1, y1, e1)) (r4 : EC.sD (x1, y1, e1) (x1, y1, e1) ≤ 9223372036854775807) (w : World) :
    Calls Tryz.prog 114 #[.agg #[.int .i64 A, .int .i64 B], .agg #[.int .i64 x1, .int .i64 y1, .int .i64 e1], .agg #[.int .i64 x1, .int .i64 y1, .int .i64 e1]] w (Gives (slV A (x1, y1, e1) (x1, y1, e1)) w) := by
  have kN : wrap64 (wrap64 (wrap64 (3 * x1) * x1) + wrap64 (wrap64 (wrap64 (wrap64 (A * e1) * e1) * e1) * e1)) = EC.sN A (x1, y1, e1) (x1, y1, e1) := by
    have e : wrap64 (wrap64 (wrap64 (3 * x1) * x1) + wrap64 (wrap64 (wrap64 (wrap64 (A * e1) * e1) * e1) * e1)) = wrap64 (EC.sN A (x1, y1, e1) (x1, y1, e1)) := by unfold EC.sN; rw [if_pos rfl]; simp only [wadd_l, wadd_r, wsub_l, wsub_r, wmul_l, wmul_r]
    rw [e, win (by omega)]
  have kD : wrap64 (wrap64 (2 * y1) * e1) = EC.sD (x1, y1, e1) (x1, y1, e1) := by
    have e : wrap64 (wrap64 (2 * y1) * e1) = wrap64 (EC.sD (x1, y1, e1) (x1, y1, e1)) := by unfold EC.sD; rw [if_pos rfl]; simp only [wadd_l, wadd_r, wsub_l, wsub_r, wmul_l, wmul_r]
    rw [e, win (by omega)]
  unfold slV
  generalize EC.sN A (x1, y1, e1) (x1, y1, e1) = N at *
  generalize EC.sD (x1, y1, e1) (x1, y1, e1) = M at *
  clear r1 r2 r3 r4
  go_enter Tryz.func114, Tryz.ntmps114
  go_wp2
  go_quiet (fail)
  go_wp2
  rw [← kN, ← kD]
  go_ret2
  exact gives rfl gr
theorem slope_any (A B x1 y1 e1 x2 y2 e2 : Int) (r1 : -9223372036854775807 ≤ EC.sN A (x1, y1, e1) (x2, y2, e2)) (r2 : EC.sN A (x1, y1, e1) (x2, y2, e2) ≤ 9223372036854775807) (r3 : -9223372036854775807 ≤ EC.sD (x1, y1, e1) (x2, y2, e2)) (r4 : EC.sD (x1, y1, e1) (x2, y2, e2) ≤ 9223372036854775807) (w : World) :
    Calls Tryz.prog 114 #[.agg #[.int .i64 A, .int .i64 B], .agg #[.int .i64 x1, .int .i64 y1, .int .i64 e1], .agg #[.int .i64 x2, .int .i64 y2, .int .i64 e2]] w (Gives (slV A (x1, y1, e1) (x2, y2, e2)) w) := by
  by_cases g1 : x1 = x2
  · subst g1
    by_cases g2 : y1 = y2
    · subst g2
      by_cases g3 : e1 = e2
      · subst g3; exact slope_q A B x1 y1 e1 r1 r2 r3 r4 w
      · exact slope_e A B x1 y1 e1 e2 g3 r1 r2 r3 r4 w
    · exact slope_y A B x1 y1 e1 y2 e2 g2 r1 r2 r3 r4 w
  · exact slope_x A B x1 y1 e1 x2 y2 e2 g1 r1 r2 r3 r4 w
end Go.Proofs.YtjgdajeoeagggaaGreat
