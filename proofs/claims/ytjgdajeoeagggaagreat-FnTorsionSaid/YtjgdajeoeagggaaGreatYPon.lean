import Derived.Test.YtjgdajeoeagggaaGreatYK6
import Derived.Test.YtjgdajeoeagggaaGreatYK1
set_option linter.unusedSimpArgs false
set_option linter.unusedVariables false
namespace Go.Proofs.YtjgdajeoeagggaaGreat
open Go.RowKit
/-! ### points of curves -/
def cvI (a b x e : Int) : Int := x*x*x + a*x*e*e*e*e + b*e*e*e*e*e*e
/-- a point of a valid curve -/
def ptB (a b x y e : Int) : Bool := isC a b && (decide (x = 0 ∧ y = 0 ∧ e = 0) || (inB x (-10000) 10000 && inB e 1 20 && decide (Int.gcd x e = 1) && decide (y * y = cvI a b x e)))
theorem mul_rng {x y X Y : Int} (hX : 0 ≤ X) (hY : 0 ≤ Y) (h1 : -X ≤ x ∧ x ≤ X) (h2 : -Y ≤ y ∧ y ≤ Y) : -(X * Y) ≤ x * y ∧ x * y ≤ X * Y := by
  have h := Int.mul_le_mul (show (x.natAbs : Int) ≤ X by omega) (show (y.natAbs : Int) ≤ Y by omega) (by omega) hX
  have e := Int.natAbs_mul x y
  have h2 : ((x * y).natAbs : Int) ≤ X * Y := by rw [e]; simpa using h
  omega
theorem cvI_rng {a b x e : Int} (ha : -1000 ≤ a ∧ a ≤ 1000) (hb : -10000 ≤ b ∧ b ≤ 10000) (hx : -10000 ≤ x ∧ x ≤ 10000) (he : -20 ≤ e ∧ e ≤ 20) : -4000000000000 ≤ cvI a b x e ∧ cvI a b x e ≤ 4000000000000 := by
  have x2 := mul_rng (by omega) (by omega) hx hx
  have x3 := mul_rng (by omega) (by omega) x2 hx
  have ax := mul_rng (by omega) (by omega) ha hx
  have a1 := mul_rng (by omega) (by omega) ax he
  have a2 := mul_rng (by omega) (by omega) a1 he
  have a3 := mul_rng (by omega) (by omega) a2 he
  have a4 := mul_rng (by omega) (by omega) a3 he
  have b1 := mul_rng (by omega) (by omega) hb he
  have b2 := mul_rng (by omega) (by omega) b1 he
  have b3 := mul_rng (by omega) (by omega) b2 he
  have b4 := mul_rng (by omega) (by omega) b3 he
  have b5 := mul_rng (by omega) (by omega) b4 he
  have b6 := mul_rng (by omega) (by omega) b5 he
  unfold cvI
  omega
theorem cVal_in {a b x e : Int} (ha : -1000 ≤ a ∧ a ≤ 1000) (hb : -10000 ≤ b ∧ b ≤ 10000) (hx : -10000 ≤ x ∧ x ≤ 10000) (he : -20 ≤ e ∧ e ≤ 20) : cVal a b x e = cvI a b x e := by
  have := cvI_rng ha hb hx he
  exact win (n := cvI a b x e) (by omega)
theorem isC_rng {a b : Int} (h : isC a b = true) : (-1000 ≤ a ∧ a ≤ 1000) ∧ (-10000 ≤ b ∧ b ≤ 10000) := by
  unfold isC at h
  simp only [Bool.and_eq_true, inB_iff] at h
  exact ⟨h.1.1, h.1.2⟩
theorem sq_big {y M : Int} (hM : 0 ≤ M) (h : inB y (-M) M = false) : M * M < y * y := by
  have h2 : M < (y.natAbs : Int) := by
    rcases Int.lt_or_le M (y.natAbs : Int) with q | q
    · exact q
    · have : inB y (-M) M = true := inB_iff.2 (by omega)
      rw [this] at h; cases h
  have h3 : (y.natAbs : Int) * (y.natAbs : Int) = y * y := by rw [← Int.natAbs_mul_self' y]
  rw [← h3]
  generalize (y.natAbs : Int) = n at *
  have a1 : M * M ≤ M * n := Int.mul_le_mul_of_nonneg_left (by omega) hM
  have a2 : M * n < n * n := Int.mul_lt_mul_of_pos_right h2 (by omega)
  omega
theorem inB_z0 {lo hi : Int} (h : lo ≤ 0) (h2 : 0 ≤ hi) : inB 0 lo hi = true := inB_iff.2 ⟨h, h2⟩
/-- With a bound M on Y that is wide enough: the same points. -/
theorem pt_eq {a b x y e : Int} (M : Int) (h1 : 2000000 ≤ M) (h2 : M ≤ 1000000000) (hC : isC a b = true) : (inB x (-10000) 10000 && inB e 1 20 && decide (Int.gcd x e = 1) && inB y (-M) M && wrap64 (y * y) == cVal a b x e) = (inB x (-10000) 10000 && inB e 1 20 && decide (Int.gcd x e = 1) && decide (y * y = cvI a b x e)) := by
  obtain ⟨ha, hb⟩ := isC_rng hC
  cases gx : inB x (-10000) 10000
  · simp
  cases ge : inB e 1 20
  · simp
  have hx := inB_iff.1 gx
  have he := inB_iff.1 ge
  rw [cVal_in ha hb hx (by omega)]
  have hr := cvI_rng ha hb hx (show -20 ≤ e ∧ e ≤ 20 by omega)
  cases gy : inB y (-M) M
  · have hs := sq_big (by omega) gy
    have hm : (2000000 : Int) * 2000000 ≤ M * M := Int.mul_le_mul h1 h1 (by omega) (by omega)
    have : ¬ y * y = cvI a b x e := by omega
    simp [this]
  · have hy := inB_iff.1 gy
    have hyy := mul_rng (X := 1000000000) (Y := 1000000000) (by omega) (by omega) (show -1000000000 ≤ y ∧ y ≤ 1000000000 by omega) (show -1000000000 ≤ y ∧ y ≤ 1000000000 by omega)
    rw [win (n := y * y) (by omega)]
    rw [Bool.eq_iff_iff]
    simp
theorem inside_zero (lo hi : Int) (h : lo ≤ 0) (h2 : 0 ≤ hi) (w : World) : Calls Tryz.prog 52 #[.int .i64 0, .int .i64 lo, .int .i64 hi] w (Same (.bool true) w) := by
  have := inside_any 0 lo hi w
  rwa [inB_z0 h h2] at this
set_option maxHeartbeats 4000000 in
theorem isPoint_any (a b x y e : Int) (w : World) : Calls Tryz.prog 50 #[.agg #[.int .i64 a, .int .i64 b], .agg #[.int .i64 x, .int .i64 y, .int .i64 e]] w (Gives (.bool (ptB a b x y e)) w) := by
  have HC := Lib.hid (fun w => isCurve_any a b w)
  unfold ptB
  cases gC : isC a b
  · rw [gC] at HC
    go_enter Tryz.func50, Tryz.ntmps50
    go_wp2_with (first | (go_at_call 42; refine (HC.out _).mono ?_; rintro e w1 ⟨rfl, hb⟩; have hz := hb.size; (try simp only [wz1, wz2, wz3, wz4] at hz); try (refine keepc hb (w.heap.size) ?_ ?_; (focus (first | omega | (simp <;> omega))); intro hc0 hf0 hl0); try (refine keepc hb (w.heap.size + 1) ?_ ?_; (focus (first | omega | (simp <;> omega))); intro hc1 hf1 hl1); try (refine keepc hb (w.heap.size + 1 + 1) ?_ ?_; (focus (first | omega | (simp <;> omega))); intro hc2 hf2 hl2)))
    go_ret; exact gives rfl gr
  rw [gC] at HC
  rw [← pt_eq (a := a) (b := b) (x := x) (y := y) (e := e) 3000000 (by omega) (by omega) gC]
  have HV := Lib.hid (fun x e w => curveValue_any a b x e w)
  by_cases hx0 : x = 0
  · subst hx0
    by_cases hy0 : y = 0
    · subst hy0
      by_cases he0 : e = 0
      · subst he0
        go_enter Tryz.func50, Tryz.ntmps50
        go_wp2_with (first | (go_at_call 42; refine (HC.out _).mono ?_; rintro e w1 ⟨rfl, hb⟩; have hz := hb.size; (try simp only [wz1, wz2, wz3, wz4] at hz); try (refine keepc hb (w.heap.size) ?_ ?_; (focus (first | omega | (simp <;> omega))); intro hc0 hf0 hl0); try (refine keepc hb (w.heap.size + 1) ?_ ?_; (focus (first | omega | (simp <;> omega))); intro hc1 hf1 hl1); try (refine keepc hb (w.heap.size + 1 + 1) ?_ ?_; (focus (first | omega | (simp <;> omega))); intro hc2 hf2 hl2)))
        go_ret; exact gives rfl gr
      rw [show decide ((0 : Int) = 0 ∧ (0 : Int) = 0 ∧ e = 0) = false by simp; omega, Bool.false_or]
      have HE := Lib.hid (fun w => inside_any e 1 20 w)
      have HGx := Lib.hid (fun (h : inB 0 (-10000) 10000 = true) (h2 : inB e 1 20 = true) w => (gcd_any 0 e (by have := inB_iff.1 h; omega) (by have := inB_iff.1 h; omega) (by have := inB_iff.1 h2; omega) (by have := inB_iff.1 h2; omega) w).mono fun _ _ h => gives_of_quiet h)
      have HV := Lib.hid (HV.out 0 e)
      generalize cVal a b 0 e = V at *
      have hgd : decide (Int.gcd 0 e = 1) = ((Int.gcd 0 e : Int) == 1) := by rw [Bool.eq_iff_iff]; simp; omega
      rw [hgd]
      clear hgd
      rw [show inB 0 (-10000) 10000 = true from rfl]
      have HGe := Lib.hid (fun h2 w => HGx.out rfl h2 w)
      generalize inB e 1 20 = E at *
      rw [show inB 0 (-3000000) 3000000 = true from rfl]
      cases E
      · clear HGx HGe
        go_enter Tryz.func50, Tryz.ntmps50
        go_wp2_with (first | (go_at_call 42; refine (HC.out _).mono ?_; rintro e w1 ⟨rfl, hb⟩; have hz := hb.size; (try simp only [wz1, wz2, wz3, wz4] at hz); try (refine keepc hb (w.heap.size) ?_ ?_; (focus (first | omega | (simp <;> omega))); intro hc0 hf0 hl0); try (refine keepc hb (w.heap.size + 1) ?_ ?_; (focus (first | omega | (simp <;> omega))); intro hc1 hf1 hl1); try (refine keepc hb (w.heap.size + 1 + 1) ?_ ?_; (focus (first | omega | (simp <;> omega))); intro hc2 hf2 hl2)) | (go_at_call_of 52 (Value.int IntKind.i64 0); refine (inside_zero _ _ (by decide) (by decide) _).mono ?_; rintro e w1 ⟨rfl, rfl⟩) | (go_at_call_of 52 (Value.int IntKind.i64 e); refine (HE.out _).mono ?_; rintro e w1 ⟨rfl, rfl⟩))
        all_goals first | (go_ret; exact gives rfl gr) | (go_ret; exact gives (vbool (by simp [])) gr) | (exfalso; omega)
      have HG := Lib.hid (fun w => HGe.out rfl w)
      clear HGx HGe
      obtain ⟨G, hG⟩ : ∃ G, (Int.gcd 0 e : Int) = G := ⟨_, rfl⟩
      rw [hG] at HG ⊢
      clear hG
      by_cases hG1 : G = 1
      · subst hG1
        rw [show ((1 : Int) == 1) = true from rfl]
        go_enter Tryz.func50, Tryz.ntmps50
        go_upto_region 7 with (first | (go_at_call 42; refine (HC.out _).mono ?_; rintro e wa ⟨rfl, hba⟩; have hza := hba.size; (try simp only [wz1, wz2, wz3, wz4] at hza); try (refine keepc hba (w.heap.size) ?_ ?_; (focus (first | omega | (simp <;> omega))); intro hca_0 hfa_0 hla_0); try (refine keepc hba (w.heap.size + 1) ?_ ?_; (focus (first | omega | (simp <;> omega))); intro hca_1 hfa_1 hla_1); try (refine keepc hba (w.heap.size + 1 + 1) ?_ ?_; (focus (first | omega | (simp <;> omega))); intro hca_2 hfa_2 hla_2)) | (go_at_call_of 52 (Value.int IntKind.i64 0); refine (inside_zero _ _ (by decide) (by decide) _).mono ?_; rintro e w1 ⟨rfl, rfl⟩) | (go_at_call_of 52 (Value.int IntKind.i64 e); refine (HE.out _).mono ?_; rintro e w1 ⟨rfl, rfl⟩) | (go_at_call 54; refine (HG.out _).mono ?_; rintro e wg ⟨rfl, hbg⟩; have hzg := hbg.size; (try simp only [wz1, wz2, wz3, wz4] at hzg); try (refine keepc hbg (w.heap.size) ?_ ?_; (focus (first | omega | (simp <;> omega))); intro hcg_0 hfg_0 hlg_0); try (refine keepc hbg (w.heap.size + 1) ?_ ?_; (focus (first | omega | (simp <;> omega))); intro hcg_1 hfg_1 hlg_1); try (refine keepc hbg (w.heap.size + 1 + 1) ?_ ?_; (focus (first | omega | (simp <;> omega))); intro hcg_2 hfg_2 hlg_2)))
        refine name_world (fun W1 hW1 => ?_)
        have z0 : W1.cell? ⟨w.heap.size, 0, none⟩ = some (.int .i64 a) := by subst hW1; simp [hcg_0, hcg_1, hca_0, hca_1, hla_0, hla_1, hlg_0, hlg_1, go_sem]
        have z1 : W1.cell? ⟨w.heap.size, 1, none⟩ = some (.int .i64 b) := by subst hW1; simp [hcg_0, hcg_1, hca_0, hca_1, hla_0, hla_1, hlg_0, hlg_1, go_sem]
        have z2 : W1.cell? ⟨w.heap.size + 1, 0, none⟩ = some (.int .i64 0) := by subst hW1; simp [hcg_0, hcg_1, hca_0, hca_1, hla_0, hla_1, hlg_0, hlg_1, go_sem]
        have z3 : W1.cell? ⟨w.heap.size + 1, 1, none⟩ = some (.int .i64 0) := by subst hW1; simp [hcg_0, hcg_1, hca_0, hca_1, hla_0, hla_1, hlg_0, hlg_1, go_sem]
        have z4 : W1.cell? ⟨w.heap.size + 1, 2, none⟩ = some (.int .i64 e) := by subst hW1; simp [hcg_0, hcg_1, hca_0, hca_1, hla_0, hla_1, hlg_0, hlg_1, go_sem]
        have hB : Below w.heap.size w W1 := by subst hW1; exact gr
        have hs0 : w.heap.size + 1 < W1.heap.size := by subst hW1; omega
        clear hW1 hba hbg hcg_0 hcg_1 hca_0 hca_1 hfa_0 hfa_1 hfg_0 hfg_1
        go_region_held3 (fun w' => Below W1.heap.size W1 w' ∧ w'.cell? ⟨w.heap.size, 0, none⟩ = some (.int .i64 a) ∧ w'.cell? ⟨w.heap.size, 1, none⟩ = some (.int .i64 b) ∧ w'.cell? ⟨w.heap.size + 1, 0, none⟩ = some (.int .i64 0) ∧ w'.cell? ⟨w.heap.size + 1, 1, none⟩ = some (.int .i64 0) ∧ w'.cell? ⟨w.heap.size + 1, 2, none⟩ = some (.int .i64 e)) ((refine (fun hbK => And.intro hbK (by exact ⟨(hbK.cell (p := ⟨w.heap.size, 0, none⟩) (by first | assumption | omega | (simp; omega))).trans z0, (hbK.cell (p := ⟨w.heap.size, 1, none⟩) (by first | assumption | omega | (simp; omega))).trans z1, (hbK.cell (p := ⟨w.heap.size + 1, 0, none⟩) (by first | assumption | omega | (simp; omega))).trans z2, (hbK.cell (p := ⟨w.heap.size + 1, 1, none⟩) (by first | assumption | omega | (simp; omega))).trans z3, (hbK.cell (p := ⟨w.heap.size + 1, 2, none⟩) (by first | assumption | omega | (simp; omega))).trans z4⟩)) ?_; repeat' (first | (with_reducible first | exact bq1 _ _ | assumption | refine bq2 ?_ ?_ _ | refine bq3 ?_ ?_ _ | refine bq4 ?_ | refine bq5 ?_ _) | (apply bthen2; (with_reducible assumption)) | go_size))) ((first | (go_at_call 92; refine (HV.out _).mono ?_; rintro e wf ⟨rfl, hbf⟩)))
        all_goals (go_wp2; go_ret; first | exact gives rfl gr | exact gives (vbool (by simp [BEq.comm]; rw [IntWalk.i64_left])) gr)
      · have hG2 : (G == 1) = false := by simp [hG1]
        rw [hG2]
        go_enter Tryz.func50, Tryz.ntmps50
        go_wp2_with (first | (go_at_call 42; refine (HC.out _).mono ?_; rintro e w1 ⟨rfl, hb⟩; have hz := hb.size; (try simp only [wz1, wz2, wz3, wz4] at hz); try (refine keepc hb (w.heap.size) ?_ ?_; (focus (first | omega | (simp <;> omega))); intro hc0 hf0 hl0); try (refine keepc hb (w.heap.size + 1) ?_ ?_; (focus (first | omega | (simp <;> omega))); intro hc1 hf1 hl1); try (refine keepc hb (w.heap.size + 1 + 1) ?_ ?_; (focus (first | omega | (simp <;> omega))); intro hc2 hf2 hl2)) | (go_at_call_of 52 (Value.int IntKind.i64 0); refine (inside_zero _ _ (by decide) (by decide) _).mono ?_; rintro e w1 ⟨rfl, rfl⟩) | (go_at_call_of 52 (Value.int IntKind.i64 e); refine (HE.out _).mono ?_; rintro e w1 ⟨rfl, rfl⟩) | (go_at_call 54; refine (HG.out _).mono ?_; rintro e w1 ⟨rfl, hb⟩; have hz := hb.size; (try simp only [wz1, wz2, wz3, wz4] at hz); try (refine keepc hb (w.heap.size) ?_ ?_; (focus (first | omega | (simp <;> omega))); intro hc0 hf0 hl0); try (refine keepc hb (w.heap.size + 1) ?_ ?_; (focus (first | omega | (simp <;> omega))); intro hc1 hf1 hl1); try (refine keepc hb (w.heap.size + 1 + 1) ?_ ?_; (focus (first | omega | (simp <;> omega))); intro hc2 hf2 hl2)))
        all_goals first | (go_ret; exact gives rfl gr) | (go_ret; exact gives (vbool (by simp [hG2])) gr) | (exfalso; omega)
    · rw [show decide ((0 : Int) = 0 ∧ y = 0 ∧ e = 0) = false by simp; omega, Bool.false_or]
      have HE := Lib.hid (fun w => inside_any e 1 20 w)
      have HY := Lib.hid (fun w => inside_any y (-3000000) 3000000 w)
      have HGx := Lib.hid (fun (h : inB 0 (-10000) 10000 = true) (h2 : inB e 1 20 = true) w => (gcd_any 0 e (by have := inB_iff.1 h; omega) (by have := inB_iff.1 h; omega) (by have := inB_iff.1 h2; omega) (by have := inB_iff.1 h2; omega) w).mono fun _ _ h => gives_of_quiet h)
      have HV := Lib.hid (HV.out 0 e)
      generalize cVal a b 0 e = V at *
      have hgd : decide (Int.gcd 0 e = 1) = ((Int.gcd 0 e : Int) == 1) := by rw [Bool.eq_iff_iff]; simp; omega
      rw [hgd]
      clear hgd
      rw [show inB 0 (-10000) 10000 = true from rfl]
      have HGe := Lib.hid (fun h2 w => HGx.out rfl h2 w)
      generalize inB e 1 20 = E at *
      generalize inB y (-3000000) 3000000 = Y at *
      cases E
      · clear HGx HGe
        go_enter Tryz.func50, Tryz.ntmps50
        go_wp2_with (first | (go_at_call 42; refine (HC.out _).mono ?_; rintro e w1 ⟨rfl, hb⟩; have hz := hb.size; (try simp only [wz1, wz2, wz3, wz4] at hz); try (refine keepc hb (w.heap.size) ?_ ?_; (focus (first | omega | (simp <;> omega))); intro hc0 hf0 hl0); try (refine keepc hb (w.heap.size + 1) ?_ ?_; (focus (first | omega | (simp <;> omega))); intro hc1 hf1 hl1); try (refine keepc hb (w.heap.size + 1 + 1) ?_ ?_; (focus (first | omega | (simp <;> omega))); intro hc2 hf2 hl2)) | (go_at_call_of 52 (Value.int IntKind.i64 0); refine (inside_zero _ _ (by decide) (by decide) _).mono ?_; rintro e w1 ⟨rfl, rfl⟩) | (go_at_call_of 52 (Value.int IntKind.i64 e); refine (HE.out _).mono ?_; rintro e w1 ⟨rfl, rfl⟩) | (go_at_call_of 52 (Value.int IntKind.i64 y); refine (HY.out _).mono ?_; rintro e w1 ⟨rfl, rfl⟩))
        all_goals first | (go_ret; exact gives rfl gr) | (go_ret; exact gives (vbool (by simp [])) gr) | (exfalso; omega)
      have HG := Lib.hid (fun w => HGe.out rfl w)
      clear HGx HGe
      obtain ⟨G, hG⟩ : ∃ G, (Int.gcd 0 e : Int) = G := ⟨_, rfl⟩
      rw [hG] at HG ⊢
      clear hG
      by_cases hG1 : G = 1
      · subst hG1
        rw [show ((1 : Int) == 1) = true from rfl]
        cases Y
        · go_enter Tryz.func50, Tryz.ntmps50
          go_wp2_with (first | (go_at_call 42; refine (HC.out _).mono ?_; rintro e w1 ⟨rfl, hb⟩; have hz := hb.size; (try simp only [wz1, wz2, wz3, wz4] at hz); try (refine keepc hb (w.heap.size) ?_ ?_; (focus (first | omega | (simp <;> omega))); intro hc0 hf0 hl0); try (refine keepc hb (w.heap.size + 1) ?_ ?_; (focus (first | omega | (simp <;> omega))); intro hc1 hf1 hl1); try (refine keepc hb (w.heap.size + 1 + 1) ?_ ?_; (focus (first | omega | (simp <;> omega))); intro hc2 hf2 hl2)) | (go_at_call_of 52 (Value.int IntKind.i64 0); refine (inside_zero _ _ (by decide) (by decide) _).mono ?_; rintro e w1 ⟨rfl, rfl⟩) | (go_at_call_of 52 (Value.int IntKind.i64 e); refine (HE.out _).mono ?_; rintro e w1 ⟨rfl, rfl⟩) | (go_at_call_of 52 (Value.int IntKind.i64 y); refine (HY.out _).mono ?_; rintro e w1 ⟨rfl, rfl⟩) | (go_at_call 54; refine (HG.out _).mono ?_; rintro e w1 ⟨rfl, hb⟩; have hz := hb.size; (try simp only [wz1, wz2, wz3, wz4] at hz); try (refine keepc hb (w.heap.size) ?_ ?_; (focus (first | omega | (simp <;> omega))); intro hc0 hf0 hl0); try (refine keepc hb (w.heap.size + 1) ?_ ?_; (focus (first | omega | (simp <;> omega))); intro hc1 hf1 hl1); try (refine keepc hb (w.heap.size + 1 + 1) ?_ ?_; (focus (first | omega | (simp <;> omega))); intro hc2 hf2 hl2)))
          all_goals first | (go_ret; exact gives rfl gr) | (go_ret; exact gives (vbool (by simp [])) gr) | (exfalso; omega)
        go_enter Tryz.func50, Tryz.ntmps50
        go_upto_region 7 with (first | (go_at_call 42; refine (HC.out _).mono ?_; rintro e wa ⟨rfl, hba⟩; have hza := hba.size; (try simp only [wz1, wz2, wz3, wz4] at hza); try (refine keepc hba (w.heap.size) ?_ ?_; (focus (first | omega | (simp <;> omega))); intro hca_0 hfa_0 hla_0); try (refine keepc hba (w.heap.size + 1) ?_ ?_; (focus (first | omega | (simp <;> omega))); intro hca_1 hfa_1 hla_1); try (refine keepc hba (w.heap.size + 1 + 1) ?_ ?_; (focus (first | omega | (simp <;> omega))); intro hca_2 hfa_2 hla_2)) | (go_at_call_of 52 (Value.int IntKind.i64 0); refine (inside_zero _ _ (by decide) (by decide) _).mono ?_; rintro e w1 ⟨rfl, rfl⟩) | (go_at_call_of 52 (Value.int IntKind.i64 e); refine (HE.out _).mono ?_; rintro e w1 ⟨rfl, rfl⟩) | (go_at_call_of 52 (Value.int IntKind.i64 y); refine (HY.out _).mono ?_; rintro e w1 ⟨rfl, rfl⟩) | (go_at_call 54; refine (HG.out _).mono ?_; rintro e wg ⟨rfl, hbg⟩; have hzg := hbg.size; (try simp only [wz1, wz2, wz3, wz4] at hzg); try (refine keepc hbg (w.heap.size) ?_ ?_; (focus (first | omega | (simp <;> omega))); intro hcg_0 hfg_0 hlg_0); try (refine keepc hbg (w.heap.size + 1) ?_ ?_; (focus (first | omega | (simp <;> omega))); intro hcg_1 hfg_1 hlg_1); try (refine keepc hbg (w.heap.size + 1 + 1) ?_ ?_; (focus (first | omega | (simp <;> omega))); intro hcg_2 hfg_2 hlg_2)))
        refine name_world (fun W1 hW1 => ?_)
        have z0 : W1.cell? ⟨w.heap.size, 0, none⟩ = some (.int .i64 a) := by subst hW1; simp [hcg_0, hcg_1, hca_0, hca_1, hla_0, hla_1, hlg_0, hlg_1, go_sem]
        have z1 : W1.cell? ⟨w.heap.size, 1, none⟩ = some (.int .i64 b) := by subst hW1; simp [hcg_0, hcg_1, hca_0, hca_1, hla_0, hla_1, hlg_0, hlg_1, go_sem]
        have z2 : W1.cell? ⟨w.heap.size + 1, 0, none⟩ = some (.int .i64 0) := by subst hW1; simp [hcg_0, hcg_1, hca_0, hca_1, hla_0, hla_1, hlg_0, hlg_1, go_sem]
        have z3 : W1.cell? ⟨w.heap.size + 1, 1, none⟩ = some (.int .i64 y) := by subst hW1; simp [hcg_0, hcg_1, hca_0, hca_1, hla_0, hla_1, hlg_0, hlg_1, go_sem]
        have z4 : W1.cell? ⟨w.heap.size + 1, 2, none⟩ = some (.int .i64 e) := by subst hW1; simp [hcg_0, hcg_1, hca_0, hca_1, hla_0, hla_1, hlg_0, hlg_1, go_sem]
        have hB : Below w.heap.size w W1 := by subst hW1; exact gr
        have hs0 : w.heap.size + 1 < W1.heap.size := by subst hW1; omega
        clear hW1 hba hbg hcg_0 hcg_1 hca_0 hca_1 hfa_0 hfa_1 hfg_0 hfg_1
        go_region_held3 (fun w' => Below W1.heap.size W1 w' ∧ w'.cell? ⟨w.heap.size, 0, none⟩ = some (.int .i64 a) ∧ w'.cell? ⟨w.heap.size, 1, none⟩ = some (.int .i64 b) ∧ w'.cell? ⟨w.heap.size + 1, 0, none⟩ = some (.int .i64 0) ∧ w'.cell? ⟨w.heap.size + 1, 1, none⟩ = some (.int .i64 y) ∧ w'.cell? ⟨w.heap.size + 1, 2, none⟩ = some (.int .i64 e)) ((refine (fun hbK => And.intro hbK (by exact ⟨(hbK.cell (p := ⟨w.heap.size, 0, none⟩) (by first | assumption | omega | (simp; omega))).trans z0, (hbK.cell (p := ⟨w.heap.size, 1, none⟩) (by first | assumption | omega | (simp; omega))).trans z1, (hbK.cell (p := ⟨w.heap.size + 1, 0, none⟩) (by first | assumption | omega | (simp; omega))).trans z2, (hbK.cell (p := ⟨w.heap.size + 1, 1, none⟩) (by first | assumption | omega | (simp; omega))).trans z3, (hbK.cell (p := ⟨w.heap.size + 1, 2, none⟩) (by first | assumption | omega | (simp; omega))).trans z4⟩)) ?_; repeat' (first | (with_reducible first | exact bq1 _ _ | assumption | refine bq2 ?_ ?_ _ | refine bq3 ?_ ?_ _ | refine bq4 ?_ | refine bq5 ?_ _) | (apply bthen2; (with_reducible assumption)) | go_size))) ((first | (go_at_call 92; refine (HV.out _).mono ?_; rintro e wf ⟨rfl, hbf⟩)))
        all_goals (go_wp2; go_ret; first | exact gives rfl gr | exact gives (vbool (by simp [BEq.comm]; rw [IntWalk.i64_left])) gr)
      · have hG2 : (G == 1) = false := by simp [hG1]
        rw [hG2]
        go_enter Tryz.func50, Tryz.ntmps50
        go_wp2_with (first | (go_at_call 42; refine (HC.out _).mono ?_; rintro e w1 ⟨rfl, hb⟩; have hz := hb.size; (try simp only [wz1, wz2, wz3, wz4] at hz); try (refine keepc hb (w.heap.size) ?_ ?_; (focus (first | omega | (simp <;> omega))); intro hc0 hf0 hl0); try (refine keepc hb (w.heap.size + 1) ?_ ?_; (focus (first | omega | (simp <;> omega))); intro hc1 hf1 hl1); try (refine keepc hb (w.heap.size + 1 + 1) ?_ ?_; (focus (first | omega | (simp <;> omega))); intro hc2 hf2 hl2)) | (go_at_call_of 52 (Value.int IntKind.i64 0); refine (inside_zero _ _ (by decide) (by decide) _).mono ?_; rintro e w1 ⟨rfl, rfl⟩) | (go_at_call_of 52 (Value.int IntKind.i64 e); refine (HE.out _).mono ?_; rintro e w1 ⟨rfl, rfl⟩) | (go_at_call_of 52 (Value.int IntKind.i64 y); refine (HY.out _).mono ?_; rintro e w1 ⟨rfl, rfl⟩) | (go_at_call 54; refine (HG.out _).mono ?_; rintro e w1 ⟨rfl, hb⟩; have hz := hb.size; (try simp only [wz1, wz2, wz3, wz4] at hz); try (refine keepc hb (w.heap.size) ?_ ?_; (focus (first | omega | (simp <;> omega))); intro hc0 hf0 hl0); try (refine keepc hb (w.heap.size + 1) ?_ ?_; (focus (first | omega | (simp <;> omega))); intro hc1 hf1 hl1); try (refine keepc hb (w.heap.size + 1 + 1) ?_ ?_; (focus (first | omega | (simp <;> omega))); intro hc2 hf2 hl2)))
        all_goals first | (go_ret; exact gives rfl gr) | (go_ret; exact gives (vbool (by simp [hG2])) gr) | (exfalso; omega)
  · rw [show decide (x = 0 ∧ y = 0 ∧ e = 0) = false by simp; omega, Bool.false_or]
    have HX := Lib.hid (fun w => inside_any x (-10000) 10000 w)
    have HE := Lib.hid (fun w => inside_any e 1 20 w)
    have HY := Lib.hid (fun w => inside_any y (-3000000) 3000000 w)
    have HGx := Lib.hid (fun (h : inB x (-10000) 10000 = true) (h2 : inB e 1 20 = true) w => (gcd_any x e (by have := inB_iff.1 h; omega) (by have := inB_iff.1 h; omega) (by have := inB_iff.1 h2; omega) (by have := inB_iff.1 h2; omega) w).mono fun _ _ h => gives_of_quiet h)
    have HV := Lib.hid (HV.out x e)
    generalize cVal a b x e = V at *
    have hgd : decide (Int.gcd x e = 1) = ((Int.gcd x e : Int) == 1) := by rw [Bool.eq_iff_iff]; simp; omega
    rw [hgd]
    clear hgd
    generalize inB x (-10000) 10000 = X at *
    generalize inB e 1 20 = E at *
    generalize inB y (-3000000) 3000000 = Y at *
    cases X
    · clear HGx
      go_enter Tryz.func50, Tryz.ntmps50
      go_wp2_with (first | (go_at_call 42; refine (HC.out _).mono ?_; rintro e w1 ⟨rfl, hb⟩; have hz := hb.size; (try simp only [wz1, wz2, wz3, wz4] at hz); try (refine keepc hb (w.heap.size) ?_ ?_; (focus (first | omega | (simp <;> omega))); intro hc0 hf0 hl0); try (refine keepc hb (w.heap.size + 1) ?_ ?_; (focus (first | omega | (simp <;> omega))); intro hc1 hf1 hl1); try (refine keepc hb (w.heap.size + 1 + 1) ?_ ?_; (focus (first | omega | (simp <;> omega))); intro hc2 hf2 hl2)) | (go_at_call_of 52 (Value.int IntKind.i64 x); refine (HX.out _).mono ?_; rintro e w1 ⟨rfl, rfl⟩) | (go_at_call_of 52 (Value.int IntKind.i64 e); refine (HE.out _).mono ?_; rintro e w1 ⟨rfl, rfl⟩) | (go_at_call_of 52 (Value.int IntKind.i64 y); refine (HY.out _).mono ?_; rintro e w1 ⟨rfl, rfl⟩))
      all_goals first | (go_ret; exact gives rfl gr) | (go_ret; exact gives (vbool (by simp [])) gr) | (exfalso; omega)
    have HGe := Lib.hid (fun h2 w => HGx.out rfl h2 w)
    cases E
    · clear HGx HGe
      go_enter Tryz.func50, Tryz.ntmps50
      go_wp2_with (first | (go_at_call 42; refine (HC.out _).mono ?_; rintro e w1 ⟨rfl, hb⟩; have hz := hb.size; (try simp only [wz1, wz2, wz3, wz4] at hz); try (refine keepc hb (w.heap.size) ?_ ?_; (focus (first | omega | (simp <;> omega))); intro hc0 hf0 hl0); try (refine keepc hb (w.heap.size + 1) ?_ ?_; (focus (first | omega | (simp <;> omega))); intro hc1 hf1 hl1); try (refine keepc hb (w.heap.size + 1 + 1) ?_ ?_; (focus (first | omega | (simp <;> omega))); intro hc2 hf2 hl2)) | (go_at_call_of 52 (Value.int IntKind.i64 x); refine (HX.out _).mono ?_; rintro e w1 ⟨rfl, rfl⟩) | (go_at_call_of 52 (Value.int IntKind.i64 e); refine (HE.out _).mono ?_; rintro e w1 ⟨rfl, rfl⟩) | (go_at_call_of 52 (Value.int IntKind.i64 y); refine (HY.out _).mono ?_; rintro e w1 ⟨rfl, rfl⟩))
      all_goals first | (go_ret; exact gives rfl gr) | (go_ret; exact gives (vbool (by simp [])) gr) | (exfalso; omega)
    have HG := Lib.hid (fun w => HGe.out rfl w)
    clear HGx HGe
    obtain ⟨G, hG⟩ : ∃ G, (Int.gcd x e : Int) = G := ⟨_, rfl⟩
    rw [hG] at HG ⊢
    clear hG
    by_cases hG1 : G = 1
    · subst hG1
      rw [show ((1 : Int) == 1) = true from rfl]
      cases Y
      · go_enter Tryz.func50, Tryz.ntmps50
        go_wp2_with (first | (go_at_call 42; refine (HC.out _).mono ?_; rintro e w1 ⟨rfl, hb⟩; have hz := hb.size; (try simp only [wz1, wz2, wz3, wz4] at hz); try (refine keepc hb (w.heap.size) ?_ ?_; (focus (first | omega | (simp <;> omega))); intro hc0 hf0 hl0); try (refine keepc hb (w.heap.size + 1) ?_ ?_; (focus (first | omega | (simp <;> omega))); intro hc1 hf1 hl1); try (refine keepc hb (w.heap.size + 1 + 1) ?_ ?_; (focus (first | omega | (simp <;> omega))); intro hc2 hf2 hl2)) | (go_at_call_of 52 (Value.int IntKind.i64 x); refine (HX.out _).mono ?_; rintro e w1 ⟨rfl, rfl⟩) | (go_at_call_of 52 (Value.int IntKind.i64 e); refine (HE.out _).mono ?_; rintro e w1 ⟨rfl, rfl⟩) | (go_at_call_of 52 (Value.int IntKind.i64 y); refine (HY.out _).mono ?_; rintro e w1 ⟨rfl, rfl⟩) | (go_at_call 54; refine (HG.out _).mono ?_; rintro e w1 ⟨rfl, hb⟩; have hz := hb.size; (try simp only [wz1, wz2, wz3, wz4] at hz); try (refine keepc hb (w.heap.size) ?_ ?_; (focus (first | omega | (simp <;> omega))); intro hc0 hf0 hl0); try (refine keepc hb (w.heap.size + 1) ?_ ?_; (focus (first | omega | (simp <;> omega))); intro hc1 hf1 hl1); try (refine keepc hb (w.heap.size + 1 + 1) ?_ ?_; (focus (first | omega | (simp <;> omega))); intro hc2 hf2 hl2)))
        all_goals first | (go_ret; exact gives rfl gr) | (go_ret; exact gives (vbool (by simp [])) gr) | (exfalso; omega)
      go_enter Tryz.func50, Tryz.ntmps50
      go_upto_region 7 with (first | (go_at_call 42; refine (HC.out _).mono ?_; rintro e wa ⟨rfl, hba⟩; have hza := hba.size; (try simp only [wz1, wz2, wz3, wz4] at hza); try (refine keepc hba (w.heap.size) ?_ ?_; (focus (first | omega | (simp <;> omega))); intro hca_0 hfa_0 hla_0); try (refine keepc hba (w.heap.size + 1) ?_ ?_; (focus (first | omega | (simp <;> omega))); intro hca_1 hfa_1 hla_1); try (refine keepc hba (w.heap.size + 1 + 1) ?_ ?_; (focus (first | omega | (simp <;> omega))); intro hca_2 hfa_2 hla_2)) | (go_at_call_of 52 (Value.int IntKind.i64 x); refine (HX.out _).mono ?_; rintro e w1 ⟨rfl, rfl⟩) | (go_at_call_of 52 (Value.int IntKind.i64 e); refine (HE.out _).mono ?_; rintro e w1 ⟨rfl, rfl⟩) | (go_at_call_of 52 (Value.int IntKind.i64 y); refine (HY.out _).mono ?_; rintro e w1 ⟨rfl, rfl⟩) | (go_at_call 54; refine (HG.out _).mono ?_; rintro e wg ⟨rfl, hbg⟩; have hzg := hbg.size; (try simp only [wz1, wz2, wz3, wz4] at hzg); try (refine keepc hbg (w.heap.size) ?_ ?_; (focus (first | omega | (simp <;> omega))); intro hcg_0 hfg_0 hlg_0); try (refine keepc hbg (w.heap.size + 1) ?_ ?_; (focus (first | omega | (simp <;> omega))); intro hcg_1 hfg_1 hlg_1); try (refine keepc hbg (w.heap.size + 1 + 1) ?_ ?_; (focus (first | omega | (simp <;> omega))); intro hcg_2 hfg_2 hlg_2)))
      refine name_world (fun W1 hW1 => ?_)
      have z0 : W1.cell? ⟨w.heap.size, 0, none⟩ = some (.int .i64 a) := by subst hW1; simp [hcg_0, hcg_1, hca_0, hca_1, hla_0, hla_1, hlg_0, hlg_1, go_sem]
      have z1 : W1.cell? ⟨w.heap.size, 1, none⟩ = some (.int .i64 b) := by subst hW1; simp [hcg_0, hcg_1, hca_0, hca_1, hla_0, hla_1, hlg_0, hlg_1, go_sem]
      have z2 : W1.cell? ⟨w.heap.size + 1, 0, none⟩ = some (.int .i64 x) := by subst hW1; simp [hcg_0, hcg_1, hca_0, hca_1, hla_0, hla_1, hlg_0, hlg_1, go_sem]
      have z3 : W1.cell? ⟨w.heap.size + 1, 1, none⟩ = some (.int .i64 y) := by subst hW1; simp [hcg_0, hcg_1, hca_0, hca_1, hla_0, hla_1, hlg_0, hlg_1, go_sem]
      have z4 : W1.cell? ⟨w.heap.size + 1, 2, none⟩ = some (.int .i64 e) := by subst hW1; simp [hcg_0, hcg_1, hca_0, hca_1, hla_0, hla_1, hlg_0, hlg_1, go_sem]
      have hB : Below w.heap.size w W1 := by subst hW1; exact gr
      have hs0 : w.heap.size + 1 < W1.heap.size := by subst hW1; omega
      clear hW1 hba hbg hcg_0 hcg_1 hca_0 hca_1 hfa_0 hfa_1 hfg_0 hfg_1
      go_region_held3 (fun w' => Below W1.heap.size W1 w' ∧ w'.cell? ⟨w.heap.size, 0, none⟩ = some (.int .i64 a) ∧ w'.cell? ⟨w.heap.size, 1, none⟩ = some (.int .i64 b) ∧ w'.cell? ⟨w.heap.size + 1, 0, none⟩ = some (.int .i64 x) ∧ w'.cell? ⟨w.heap.size + 1, 1, none⟩ = some (.int .i64 y) ∧ w'.cell? ⟨w.heap.size + 1, 2, none⟩ = some (.int .i64 e)) ((refine (fun hbK => And.intro hbK (by exact ⟨(hbK.cell (p := ⟨w.heap.size, 0, none⟩) (by first | assumption | omega | (simp; omega))).trans z0, (hbK.cell (p := ⟨w.heap.size, 1, none⟩) (by first | assumption | omega | (simp; omega))).trans z1, (hbK.cell (p := ⟨w.heap.size + 1, 0, none⟩) (by first | assumption | omega | (simp; omega))).trans z2, (hbK.cell (p := ⟨w.heap.size + 1, 1, none⟩) (by first | assumption | omega | (simp; omega))).trans z3, (hbK.cell (p := ⟨w.heap.size + 1, 2, none⟩) (by first | assumption | omega | (simp; omega))).trans z4⟩)) ?_; repeat' (first | (with_reducible first | exact bq1 _ _ | assumption | refine bq2 ?_ ?_ _ | refine bq3 ?_ ?_ _ | refine bq4 ?_ | refine bq5 ?_ _) | (apply bthen2; (with_reducible assumption)) | go_size))) ((first | (go_at_call 92; refine (HV.out _).mono ?_; rintro e wf ⟨rfl, hbf⟩)))
      all_goals (go_wp2; go_ret; first | exact gives rfl gr | exact gives (vbool (by simp [BEq.comm]; rw [IntWalk.i64_left])) gr)
    · have hG2 : (G == 1) = false := by simp [hG1]
      rw [hG2]
      go_enter Tryz.func50, Tryz.ntmps50
      go_wp2_with (first | (go_at_call 42; refine (HC.out _).mono ?_; rintro e w1 ⟨rfl, hb⟩; have hz := hb.size; (try simp only [wz1, wz2, wz3, wz4] at hz); try (refine keepc hb (w.heap.size) ?_ ?_; (focus (first | omega | (simp <;> omega))); intro hc0 hf0 hl0); try (refine keepc hb (w.heap.size + 1) ?_ ?_; (focus (first | omega | (simp <;> omega))); intro hc1 hf1 hl1); try (refine keepc hb (w.heap.size + 1 + 1) ?_ ?_; (focus (first | omega | (simp <;> omega))); intro hc2 hf2 hl2)) | (go_at_call_of 52 (Value.int IntKind.i64 x); refine (HX.out _).mono ?_; rintro e w1 ⟨rfl, rfl⟩) | (go_at_call_of 52 (Value.int IntKind.i64 e); refine (HE.out _).mono ?_; rintro e w1 ⟨rfl, rfl⟩) | (go_at_call_of 52 (Value.int IntKind.i64 y); refine (HY.out _).mono ?_; rintro e w1 ⟨rfl, rfl⟩) | (go_at_call 54; refine (HG.out _).mono ?_; rintro e w1 ⟨rfl, hb⟩; have hz := hb.size; (try simp only [wz1, wz2, wz3, wz4] at hz); try (refine keepc hb (w.heap.size) ?_ ?_; (focus (first | omega | (simp <;> omega))); intro hc0 hf0 hl0); try (refine keepc hb (w.heap.size + 1) ?_ ?_; (focus (first | omega | (simp <;> omega))); intro hc1 hf1 hl1); try (refine keepc hb (w.heap.size + 1 + 1) ?_ ?_; (focus (first | omega | (simp <;> omega))); intro hc2 hf2 hl2)))
      all_goals first | (go_ret; exact gives rfl gr) | (go_ret; exact gives (vbool (by simp [hG2])) gr) | (exfalso; omega)
theorem ptValue_any (a b x e : Int) (w : World) : Calls Tryz.prog 93 #[.agg #[.int .i64 a, .int .i64 b], .int .i64 x, .int .i64 e] w (Gives (.int .i64 (cVal a b x e)) w) := by
  go_enter Tryz.func93, Tryz.ntmps93
  go_wp2
  go_ret
  exact gives (vint (by simp only [cVal, wadd_l, wadd_r, wmul_l, wmul_r]; congr 1; grind)) gr
end Go.Proofs.YtjgdajeoeagggaaGreat
