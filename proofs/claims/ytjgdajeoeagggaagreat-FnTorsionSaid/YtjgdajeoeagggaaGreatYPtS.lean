import Derived.Test.YtjgdajeoeagggaaGreatYPtR
set_option linter.unusedSimpArgs false
set_option linter.unusedVariables false
namespace Go.Proofs.YtjgdajeoeagggaaGreat
open Go.RowKit
/-! ### the program's sum of points is the rational one -/
theorem side_sign {Y m E e s : Int} (hE : 0 < E) (he : 0 < e) (hm : m ≠ 0) (h : Y * (m * E) = e * s) (R : Int) (hR : R = Y.natAbs) : Y = (if (decide (s < 0) != decide (m < 0)) = true then -R else R) := by
  subst hR
  rcases Int.lt_trichotomy Y 0 with y | y | y <;> rcases Int.lt_or_lt_of_ne hm with g | g
  · have h1 : 0 < Y * (m * E) := Int.mul_pos_of_neg_of_neg y (Int.mul_neg_of_neg_of_pos g hE)
    have h2 : ¬ s < 0 := fun hs => by have := Int.mul_neg_of_pos_of_neg he hs; omega
    simp [h2, g]; omega
  · have h1 : Y * (m * E) < 0 := Int.mul_neg_of_neg_of_pos y (Int.mul_pos g hE)
    have h2 : s < 0 := by
      rcases Int.lt_or_le s 0 with q | q
      · exact q
      · have := Int.mul_nonneg (show 0 ≤ e by omega) q; omega
    have h3 : ¬ m < 0 := by omega
    simp [h2, h3]; omega
  · subst y; simp
  · subst y; simp
  · have h1 : Y * (m * E) < 0 := Int.mul_neg_of_pos_of_neg y (Int.mul_neg_of_neg_of_pos g hE)
    have h2 : s < 0 := by
      rcases Int.lt_or_le s 0 with q | q
      · exact q
      · have := Int.mul_nonneg (show 0 ≤ e by omega) q; omega
    simp [h2, g]; omega
  · have h1 : 0 < Y * (m * E) := Int.mul_pos y (Int.mul_pos g hE)
    have h2 : ¬ s < 0 := fun hs => by have := Int.mul_neg_of_pos_of_neg he hs; omega
    have h3 : ¬ m < 0 := by omega
    simp [h2, h3]; omega
theorem abs_le_mul {e s : Int} (he : 1 ≤ e) : s.natAbs ≤ (e * s).natAbs := by
  rw [Int.natAbs_mul]; exact Nat.le_mul_of_pos_left _ (by omega)
theorem side_ok {x1 y1 e1 n m X e Y : Int} (p3 : e1.natAbs ≤ 20) (v2 : Y.natAbs ≤ 2000000) (hm : m.natAbs ≤ 8000) (he1 : 1 ≤ e) (hside : Y * (m * (e1 * e1 * e1)) = e * EC.sideI (x1, y1, e1) n m X e) :
    wrap64 (wrap64 (wrap64 (n * wrap64 (wrap64 (wrap64 (x1 * e) * e) - wrap64 (wrap64 (X * e1) * e1))) * e1) - wrap64 (wrap64 (wrap64 (y1 * m) * e) * e)) = EC.sideI (x1, y1, e1) n m X e := by
  have bside : (EC.sideI (x1, y1, e1) n m X e).natAbs ≤ 128000000000000 := by
    have h5 := abs_le_mul (e := e) (s := EC.sideI (x1, y1, e1) n m X e) he1
    rw [← hside] at h5
    exact Nat.le_trans h5 (Nat.le_trans (nmul v2 (nmul hm (nmul (nmul p3 p3) p3))) (by decide))
  have e5 : EC.sideI (x1, y1, e1) n m X e = n * (x1 * e * e - X * e1 * e1) * e1 - y1 * m * e * e := by simp only [EC.sideI]
  rw [e5] at bside ⊢
  simp only [wadd_l, wadd_r, wsub_l, wsub_r, wmul_l, wmul_r]
  clear hside e5
  generalize n * (x1 * e * e - X * e1 * e1) * e1 - y1 * m * e * e = V at *
  exact win (by omega)
theorem hit_all {A B x1 y1 e1 n m X e Y : Int} (hA : -1000 ≤ A ∧ A ≤ 1000) (hB : -10000 ≤ B ∧ B ≤ 10000) (p3 : e1.natAbs ≤ 20) (h1 : 1 ≤ e1) (hm : m.natAbs ≤ 8000) (hm0 : m ≠ 0) (he1 : 1 ≤ e) (he2 : e ≤ 20) (hX1 : -10000 ≤ X) (hX2 : X ≤ 10000) (v2 : Y.natAbs ≤ 2000000)
    (hY : Y * Y = cvI A B X e) (hside : Y * (m * (e1 * e1 * e1)) = e * EC.sideI (x1, y1, e1) n m X e) :
    sqB (cVal A B X e) = true ∧ cVal A B X e ≤ 4000000000000 ∧
      wrap64 (wrap64 (wrap64 (n * wrap64 (wrap64 (wrap64 (x1 * e) * e) - wrap64 (wrap64 (X * e1) * e1))) * e1) - wrap64 (wrap64 (wrap64 (y1 * m) * e) * e)) = EC.sideI (x1, y1, e1) n m X e ∧ Y = (if (decide (EC.sideI (x1, y1, e1) n m X e < 0) != decide (m < 0)) = true then -rt (cVal A B X e) else rt (cVal A B X e)) := by
  have hcv := cvI_rng (a := A) (b := B) (x := X) (e := e) hA hB ⟨hX1, hX2⟩ ⟨by omega, by omega⟩
  have hcc := cVal_in (a := A) (b := B) (x := X) (e := e) hA hB ⟨hX1, hX2⟩ ⟨by omega, by omega⟩
  have hrt : rt (cVal A B X e) = Y.natAbs := by
    rw [hcc, ← hY]
    exact rt_sq (by omega) (Int.natAbs_mul_self' Y)
  have hE0 : 0 < e1 * e1 * e1 := Int.mul_pos (Int.mul_pos (by omega) (by omega)) (by omega)
  exact ⟨sqB_iff.2 ⟨Y.natAbs, by omega, by rw [hcc, ← hY]; exact Int.natAbs_mul_self' Y⟩, by rw [hcc]; exact hcv.2, side_ok p3 v2 hm he1 hside, side_sign hE0 (by omega) hm0 hside _ hrt⟩
set_option maxRecDepth 100000 in
set_option maxHeartbeats 4000000 in
theorem addPoints_zl (A B x2 y2 e2 : Int) (hq : EC.PV A B (x2, y2, e2)) (w : World) :
    Calls Tryz.prog 80 #[.agg #[.int .i64 A, .int .i64 B], .agg #[.int .i64 0, .int .i64 0, .int .i64 0], .agg #[.int .i64 x2, .int .i64 y2, .int .i64 e2]] w (Gives (sumV A (0, 0, 0) (x2, y2, e2)) w) := by
  unfold sumV
  rw [sumO_zl hq]
  clear hq
  go_enter Tryz.func80, Tryz.ntmps80
  go_wp2
  refine bodyPost_ret (v := .tuple #[.agg #[.int .i64 x2, .int .i64 y2, .int .i64 e2], .bool true]) (by simp [results, Tryz.results80, go_sem]) rfl (gives rfl gr)
set_option maxRecDepth 100000 in
set_option maxHeartbeats 4000000 in
theorem addPoints_zr (A B x1 y1 e1 : Int) (h1 : e1 ≠ 0) (hq : EC.PV A B (x1, y1, e1)) (w : World) :
    Calls Tryz.prog 80 #[.agg #[.int .i64 A, .int .i64 B], .agg #[.int .i64 x1, .int .i64 y1, .int .i64 e1], .agg #[.int .i64 0, .int .i64 0, .int .i64 0]] w (Gives (sumV A (x1, y1, e1) (0, 0, 0)) w) := by
  unfold sumV
  rw [sumO_zr hq]
  have k1 : (e1 == 0) = false := by simpa using h1
  clear hq
  go_enter Tryz.func80, Tryz.ntmps80
  go_wp2
  refine bodyPost_ret (v := .tuple #[.agg #[.int .i64 x1, .int .i64 y1, .int .i64 e1], .bool true]) (by simp [results, Tryz.results80, go_sem]) rfl (gives rfl gr)
set_option maxRecDepth 100000 in
set_option maxHeartbeats 4000000 in
theorem addPoints_opp (A B x2 y2 e2 : Int) (h2 : e2 ≠ 0) (ry : -2000000 ≤ y2 ∧ y2 ≤ 2000000) (hS : EC.sumO A (x2, -y2, e2) (x2, y2, e2) = some (0, 0, 0)) (w : World) :
    Calls Tryz.prog 80 #[.agg #[.int .i64 A, .int .i64 B], .agg #[.int .i64 x2, .int .i64 (-y2), .int .i64 e2], .agg #[.int .i64 x2, .int .i64 y2, .int .i64 e2]] w (Gives (sumV A (x2, -y2, e2) (x2, y2, e2)) w) := by
  unfold sumV
  rw [hS]
  have k2 : (e2 == 0) = false := by simpa using h2
  have HO := Lib.hid (fun W => opposite_any x2 y2 e2 (by omega) (by omega) W)
  clear hS ry
  go_enter Tryz.func80, Tryz.ntmps80
  go_upto_region 5 with fail
  refine name_world (fun W1 hW1 => ?_)
  have B1 : Box W1 (w.heap.size + 1) [.int .i64 x2, .int .i64 (-y2), .int .i64 e2] := by subst hW1; exact box_three (by first | omega | (simp; done) | (simp; omega)) (by simp [go_sem]) (by simp [go_sem]) (by simp [go_sem]) (fun o => by simp [go_sem])
  have B2 : Box W1 (w.heap.size + 1 + 1) [.int .i64 x2, .int .i64 y2, .int .i64 e2] := by subst hW1; exact box_three (by first | omega | (simp; done) | (simp; omega)) (by simp [go_sem]) (by simp [go_sem]) (by simp [go_sem]) (fun o => by simp [go_sem])
  have BR : Box W1 (w.heap.size + 1 + 1 + 1) [.int .i64 0, .int .i64 0, .int .i64 0] := by subst hW1; exact box_three (by first | omega | (simp; done) | (simp; omega)) (by simp [go_sem]) (by simp [go_sem]) (by simp [go_sem]) (fun o => by simp [go_sem])
  have hB1 : Below w.heap.size w W1 := by subst hW1; exact gr
  clear hW1
  have z0 := B1.2.1 0 _ rfl; have z1 := B1.2.1 1 _ rfl; have z2 := B1.2.1 2 _ rfl; have zl := B1.1
  have y0 := B2.2.1 0 _ rfl; have yy1 := B2.2.1 1 _ rfl; have yy2 := B2.2.1 2 _ rfl; have yl := B2.1
  go_region_held3 (fun w' => Below W1.heap.size W1 w' ∧ w'.cell? ⟨w.heap.size + 1, 0, none⟩ = some (.int .i64 x2) ∧ w'.cell? ⟨w.heap.size + 1, 1, none⟩ = some (.int .i64 (-y2)) ∧ w'.cell? ⟨w.heap.size + 1, 2, none⟩ = some (.int .i64 e2) ∧ w'.cell? ⟨w.heap.size + 1 + 1, 0, none⟩ = some (.int .i64 x2) ∧ w'.cell? ⟨w.heap.size + 1 + 1, 1, none⟩ = some (.int .i64 y2) ∧ w'.cell? ⟨w.heap.size + 1 + 1, 2, none⟩ = some (.int .i64 e2)) ((refine (fun hbK => And.intro hbK (by exact ⟨(hbK.cell (p := ⟨w.heap.size + 1, 0, none⟩) (by first | assumption | omega | (simp; omega))).trans z0, (hbK.cell (p := ⟨w.heap.size + 1, 1, none⟩) (by first | assumption | omega | (simp; omega))).trans z1, (hbK.cell (p := ⟨w.heap.size + 1, 2, none⟩) (by first | assumption | omega | (simp; omega))).trans z2, (hbK.cell (p := ⟨w.heap.size + 1 + 1, 0, none⟩) (by first | assumption | omega | (simp; omega))).trans y0, (hbK.cell (p := ⟨w.heap.size + 1 + 1, 1, none⟩) (by first | assumption | omega | (simp; omega))).trans yy1, (hbK.cell (p := ⟨w.heap.size + 1 + 1, 2, none⟩) (by first | assumption | omega | (simp; omega))).trans yy2⟩)) ?_; repeat' (first | (with_reducible first | exact bq1 _ _ | assumption | refine bq2 ?_ ?_ _ | refine bq3 ?_ ?_ _ | refine bq4 ?_ | refine bq5 ?_ _) | (apply bthen2; (with_reducible assumption)) | go_size))) ((first | (go_at_call 113; refine (HO.out _).mono ?_; rintro e wf ⟨rfl, hbf⟩; have BR2 := Box.below (show Box _ (w.heap.size + 1 + 1 + 1) [.int .i64 0, .int .i64 0, .int .i64 0] from qa5) hbf; have f0 := BR2.2.1 0 _ rfl; have f1 := BR2.2.1 1 _ rfl; have f2 := BR2.2.1 2 _ rfl; have ff := BR2.2.2; have fl := BR2.1)))
  repeat (first | go_values | go_skip | go_guarded | go_step | go_upon)
  refine bodyPost_ret (v := .tuple #[.agg #[.int .i64 0, .int .i64 0, .int .i64 0], .bool true]) (by simp [results, Tryz.results80, go_sem, f0, f1, f2, ff, fl]) rfl (gives rfl gr)
set_option maxHeartbeats 8000000 in
theorem addPoints_any (A B x1 y1 e1 x2 y2 e2 : Int) (hC : isC A B = true) (hp : EC.PV A B (x1, y1, e1)) (hq : EC.PV A B (x2, y2, e2)) (w : World) :
    Calls Tryz.prog 80 #[.agg #[.int .i64 A, .int .i64 B], .agg #[.int .i64 x1, .int .i64 y1, .int .i64 e1], .agg #[.int .i64 x2, .int .i64 y2, .int .i64 e2]] w (Gives (sumV A (x1, y1, e1) (x2, y2, e2)) w) := by
  obtain ⟨hA, hB⟩ := isC_rng hC
  by_cases h1 : e1 = 0
  · obtain ⟨rfl, rfl⟩ := PV.z hp h1
    subst h1
    exact addPoints_zl A B x2 y2 e2 hq w
  by_cases h2 : e2 = 0
  · obtain ⟨rfl, rfl⟩ := PV.z hq h2
    subst h2
    exact addPoints_zr A B x1 y1 e1 h1 hp w
  have rp := PV.rng hA hB hp
  have rq := PV.rng hA hB hq
  have rN := sN_rng (A := A) (by omega) rp rq
  have rD := sD_rng rp rq
  by_cases hno : (x1, y1, e1) = EC.opp (x2, y2, e2)
  · have hS := EC.add_opp hp hq hno
    simp only [EC.opp, Prod.mk.injEq] at hno
    obtain ⟨rfl, rfl, rfl⟩ := hno
    exact addPoints_opp A B x1 y2 e1 h1 (by have := rq.2.1; simp only at this; omega) hS w
  have hno2 : ¬ (x1 = x2 ∧ y1 = -y2 ∧ e1 = e2) := by
    rintro ⟨rfl, rfl, rfl⟩; exact hno rfl
  have hsd := (EC.add_slope hp hq h1 h2 hno).1
  have g1 := gcd_ne (EC.sN A (x1, y1, e1) (x2, y2, e2)) (EC.sD (x1, y1, e1) (x2, y2, e2)) hsd
  have HS0 := fun w => slope_any A B x1 y1 e1 x2 y2 e2 (by omega) (by omega) (by omega) (by omega) w
  unfold slV at HS0
  have HG0 := fun w => (gcd_any (EC.sN A (x1, y1, e1) (x2, y2, e2)) (EC.sD (x1, y1, e1) (x2, y2, e2)) (by omega) (by omega) (by omega) (by omega) w).mono fun _ _ h => gives_of_quiet h
  have hgn : ((Int.gcd (EC.sN A (x1, y1, e1) (x2, y2, e2)) (EC.sD (x1, y1, e1) (x2, y2, e2)) : Nat) : Int) ∣ EC.sN A (x1, y1, e1) (x2, y2, e2) := Int.gcd_dvd_left ..
  have hgm : ((Int.gcd (EC.sN A (x1, y1, e1) (x2, y2, e2)) (EC.sD (x1, y1, e1) (x2, y2, e2)) : Nat) : Int) ∣ EC.sD (x1, y1, e1) (x2, y2, e2) := Int.gcd_dvd_right ..
  have bn := tdiv_bd (EC.sN A (x1, y1, e1) (x2, y2, e2)) ((Int.gcd (EC.sN A (x1, y1, e1) (x2, y2, e2)) (EC.sD (x1, y1, e1) (x2, y2, e2)) : Nat) : Int)
  have bm := tdiv_bd (EC.sD (x1, y1, e1) (x2, y2, e2)) ((Int.gcd (EC.sN A (x1, y1, e1) (x2, y2, e2)) (EC.sD (x1, y1, e1) (x2, y2, e2)) : Nat) : Int)
  have hgc : Int.gcd ((EC.sN A (x1, y1, e1) (x2, y2, e2)).tdiv ((Int.gcd (EC.sN A (x1, y1, e1) (x2, y2, e2)) (EC.sD (x1, y1, e1) (x2, y2, e2)) : Nat) : Int)) ((EC.sD (x1, y1, e1) (x2, y2, e2)).tdiv ((Int.gcd (EC.sN A (x1, y1, e1) (x2, y2, e2)) (EC.sD (x1, y1, e1) (x2, y2, e2)) : Nat) : Int)) = 1 := by
    have h := (low_spec (a := EC.sN A (x1, y1, e1) (x2, y2, e2)) hsd).2.2.2
    by_cases hs : EC.sD (x1, y1, e1) (x2, y2, e2) < 0
    · have hd : mkD (EC.sN A (x1, y1, e1) (x2, y2, e2)) (EC.sD (x1, y1, e1) (x2, y2, e2)) = -((Int.gcd (EC.sN A (x1, y1, e1) (x2, y2, e2)) (EC.sD (x1, y1, e1) (x2, y2, e2)) : Nat) : Int) := by unfold mkD; rw [if_pos hs]
      rw [hd, Int.tdiv_neg, Int.tdiv_neg, Int.gcd_neg, Int.neg_gcd] at h
      exact h
    · have hd : mkD (EC.sN A (x1, y1, e1) (x2, y2, e2)) (EC.sD (x1, y1, e1) (x2, y2, e2)) = ((Int.gcd (EC.sN A (x1, y1, e1) (x2, y2, e2)) (EC.sD (x1, y1, e1) (x2, y2, e2)) : Nat) : Int) := by unfold mkD; rw [if_neg hs]
      rw [hd] at h
      exact h
  have hn : (EC.sN A (x1, y1, e1) (x2, y2, e2)).tdiv ((Int.gcd (EC.sN A (x1, y1, e1) (x2, y2, e2)) (EC.sD (x1, y1, e1) (x2, y2, e2)) : Nat) : Int) * ((Int.gcd (EC.sN A (x1, y1, e1) (x2, y2, e2)) (EC.sD (x1, y1, e1) (x2, y2, e2)) : Nat) : Int) = EC.sN A (x1, y1, e1) (x2, y2, e2) := Int.tdiv_mul_cancel hgn
  have hm : (EC.sD (x1, y1, e1) (x2, y2, e2)).tdiv ((Int.gcd (EC.sN A (x1, y1, e1) (x2, y2, e2)) (EC.sD (x1, y1, e1) (x2, y2, e2)) : Nat) : Int) * ((Int.gcd (EC.sN A (x1, y1, e1) (x2, y2, e2)) (EC.sD (x1, y1, e1) (x2, y2, e2)) : Nat) : Int) = EC.sD (x1, y1, e1) (x2, y2, e2) := Int.tdiv_mul_cancel hgm
  obtain ⟨n, hnn⟩ : ∃ n, (EC.sN A (x1, y1, e1) (x2, y2, e2)).tdiv ((Int.gcd (EC.sN A (x1, y1, e1) (x2, y2, e2)) (EC.sD (x1, y1, e1) (x2, y2, e2)) : Nat) : Int) = n := ⟨_, rfl⟩
  obtain ⟨m, hmm⟩ : ∃ m, (EC.sD (x1, y1, e1) (x2, y2, e2)).tdiv ((Int.gcd (EC.sN A (x1, y1, e1) (x2, y2, e2)) (EC.sD (x1, y1, e1) (x2, y2, e2)) : Nat) : Int) = m := ⟨_, rfl⟩
  rw [hnn] at hn bn hgc
  rw [hmm] at hm bm hgc
  have hm0 : m ≠ 0 := by rintro rfl; rw [Int.zero_mul] at hm; exact hsd hm.symm
  obtain ⟨p1, p2, p3, p4⟩ := rp
  obtain ⟨q1, q2, q3, q4⟩ := rq
  simp only at p1 p2 p3 p4 q1 q2 q3 q4
  have bE : (e1 * e1 * e2 * e2).natAbs ≤ 160000 := Nat.le_trans (nmul (nmul (nmul p3 p3) q3) q3) (by decide)
  have bS : (x1 * e2 * e2 + x2 * e1 * e1).natAbs ≤ 8000000 := Nat.le_trans (nadd (nmul (nmul p1 q3) q3) (nmul (nmul q1 p3) p3)) (by decide)
  have kE : wrap64 (wrap64 (wrap64 (e1 * e1) * e2) * e2) = e1 * e1 * e2 * e2 := by simp only [wmul_l]; exact win (by omega)
  have kS : wrap64 (wrap64 (wrap64 (x1 * e2) * e2) + wrap64 (wrap64 (x2 * e1) * e1)) = x1 * e2 * e2 + x2 * e1 * e1 := by simp only [wadd_l, wadd_r, wmul_l]; exact win (by omega)
  have eB : EC.botI (x1, y1, e1) (x2, y2, e2) m = m * m * (e1 * e1 * e2 * e2) := rfl
  have eT : EC.topI (x1, y1, e1) (x2, y2, e2) n m = n * n * (e1 * e1 * e2 * e2) + -(m * m * (x1 * e2 * e2 + x2 * e1 * e1)) := by simp only [EC.topI, EC.eeI]; grind
  refine addPoints_main A B x1 y1 e1 x2 y2 e2 _ _ _ n m (e1 * e1 * e2 * e2) (x1 * e2 * e2 + x2 * e1 * e1) h1 h2 hno2 (by omega) HS0 HG0 (by omega) hnn hmm (by omega) (by omega) kE bE kS bS (by rw [← eB]; exact EC.bot_pos hp hq h1 h2 hm0) (fun x e W => curveValue_any A B x e W) ?_ ?_ w
  · intro e X he1 he2 hX1 hX2 hX hg
    rw [← eB, ← eT] at hX
    obtain ⟨Y, hs, hY, hside⟩ := EC.sum_hit hp hq h1 h2 hno hn hm he1 he2 hX1 hX2 hX hg
    have hsl := EC.sum_slope hp hq h1 h2 hno hn hm hgc hs
    have v2 := (PV.rng hA hB (sumO_fin hp hq hs)).2.1
    exact ⟨Y, hs, hit_all hA hB p3 (hp.fin h1).2.2.1 hsl.1 hm0 he1 he2 hX1 hX2 v2 hY hside⟩
  · intro X Y e h
    obtain ⟨m1, m2, m3, m4, m5, m6⟩ := EC.sum_miss hp hq h1 h2 hno hn hm h
    exact ⟨m1, m2, m3, m4, by rw [← eB, ← eT]; exact m5, m6⟩
def ordGo (A : Int) (p : P3) : Nat → Int → P3 → Int × Bool
  | 0, _, _ => (0, false)
  | f + 1, n, now => match EC.sumO A now p with
    | none => (0, false)
    | some q => if q.2.2 = 0 then (n, true) else ordGo A p f (n + 1) q
def ordV (A : Int) (p : P3) : Int × Bool := ordGo A p 12 1 (0, 0, 0)
theorem ordGo_none {A : Int} {p now : P3} {f : Nat} {n : Int} (h : EC.sumO A now p = none) : ordGo A p (f + 1) n now = (0, false) := by rw [ordGo, h]
theorem ordGo_fin {A : Int} {p now q : P3} {f : Nat} {n : Int} (h : EC.sumO A now p = some q) (h0 : q.2.2 = 0) : ordGo A p (f + 1) n now = (n, true) := by rw [ordGo, h]; simp only [h0, if_true]
theorem ordGo_go {A : Int} {p now q : P3} {f : Nat} {n : Int} (h : EC.sumO A now p = some q) (h0 : ¬ q.2.2 = 0) : ordGo A p (f + 1) n now = ordGo A p f (n + 1) q := by rw [ordGo, h]; simp only [h0, if_false]
theorem sumV_none {A : Int} {p q : P3} (h : EC.sumO A p q = none) : sumV A p q = .tuple #[.agg #[.int .i64 0, .int .i64 0, .int .i64 0], .bool false] := by unfold sumV; rw [h]
theorem sumV_some {A a b c : Int} {p q : P3} (h : EC.sumO A p q = some (a, b, c)) : sumV A p q = .tuple #[.agg #[.int .i64 a, .int .i64 b, .int .i64 c], .bool true] := by unfold sumV; rw [h]
def mulO (A : Int) (p : P3) : Nat → Option P3
  | 0 => some (0, 0, 0)
  | k + 1 => match mulO A p k with
    | none => none
    | some q => EC.sumO A q p
theorem mulO_succ {A : Int} {p q : P3} {k : Nat} (h : mulO A p k = some q) : mulO A p (k + 1) = EC.sumO A q p := by rw [mulO, h]
theorem mulO_none {A : Int} {p : P3} {k : Nat} (h : mulO A p k = none) : ∀ j, mulO A p (k + j) = none
  | 0 => h
  | j + 1 => by rw [show k + (j + 1) = (k + j) + 1 by omega, mulO, mulO_none h j]
def mulV (A : Int) (p : P3) (n : Nat) : Value := match mulO A p n with
  | some r => .tuple #[.agg #[.int .i64 r.1, .int .i64 r.2.1, .int .i64 r.2.2], .bool true]
  | none => .tuple #[.agg #[.int .i64 0, .int .i64 0, .int .i64 0], .bool false]
set_option maxRecDepth 100000 in
set_option maxHeartbeats 4000000 in
theorem orderOfPoint_any (A B x y e : Int) (hC : isC A B = true) (hp : EC.PV A B (x, y, e)) (w : World) :
    Calls Tryz.prog 62 #[.agg #[.int .i64 A, .int .i64 B], .agg #[.int .i64 x, .int .i64 y, .int .i64 e]] w (Gives (.tuple #[.int .i64 (ordV A (x, y, e)).1, .bool (ordV A (x, y, e)).2]) w) := by
  have HA := Lib.hid (fun u v t (h : EC.PV A B (u, v, t)) W => addPoints_any A B u v t x y e hC h hp W)
  have HS := Lib.hid (fun u v t r (h : EC.PV A B (u, v, t)) (h2 : EC.sumO A (u, v, t) (x, y, e) = some r) => (EC.sumO_PV h hp h2).1)
  obtain ⟨R1, R2, hR⟩ : ∃ R1 R2, ordV A (x, y, e) = (R1, R2) := ⟨_, _, rfl⟩
  rw [hR]
  dsimp only
  have HR := Lib.hid (show ordGo A (x, y, e) 12 1 (0, 0, 0) = (R1, R2) from hR)
  clear hR hC hp
  go_enter Tryz.func62, Tryz.ntmps62
  go_wp2
  refine name_world (fun W1 hW1 => ?_)
  have Bc : Box W1 w.heap.size [.int .i64 A, .int .i64 B] := by subst hW1; exact box_two (by first | omega | (simp; done) | (simp; omega)) (by simp [go_sem]) (by simp [go_sem]) (fun o => by simp [go_sem])
  have Bp : Box W1 (w.heap.size + 1) [.int .i64 x, .int .i64 y, .int .i64 e] := by subst hW1; exact box_three (by first | omega | (simp; done) | (simp; omega)) (by simp [go_sem]) (by simp [go_sem]) (by simp [go_sem]) (fun o => by simp [go_sem])
  have Bn : Box W1 (w.heap.size + 1 + 1) [.int .i64 0, .int .i64 0, .int .i64 0] := by subst hW1; exact box_three (by first | omega | (simp; done) | (simp; omega)) (by simp [go_sem]) (by simp [go_sem]) (by simp [go_sem]) (fun o => by simp [go_sem])
  have hB : Below w.heap.size w W1 := by subst hW1; exact gr
  clear hW1
  go_loopw [7] (fun v7 wr => ∃ (n : Int) (f : Nat) (u v t : Int), v7 = .int .i64 n ∧ 1 ≤ n ∧ n + f = 13 ∧ EC.PV A B (u, v, t) ∧ Hid (ordGo A (x, y, e) f n (u, v, t) = (R1, R2)) ∧ Box wr w.heap.size [.int .i64 A, .int .i64 B] ∧ Box wr (w.heap.size + 1) [.int .i64 x, .int .i64 y, .int .i64 e] ∧ Box wr (w.heap.size + 1 + 1) [.int .i64 u, .int .i64 v, .int .i64 t] ∧ Below w.heap.size w wr) (fun v7 _ => (13 - intOf v7).toNat)
  case atStart => exact ⟨1, 12, 0, 0, 0, rfl, by omega, by omega, .inl rfl, HR, Bc, Bp, Bn, hB⟩
  case round =>
    clear HR Bc Bp Bn hB
    obtain ⟨n, f, u, v, t, rfl, hn1, hnf, hPV, HG, Bc, Bp, Bn, hB⟩ := hrel
    have c0 := Bc.2.1 0 _ rfl; have c1 := Bc.2.1 1 _ rfl; have cl := Bc.1
    have p0 := Bp.2.1 0 _ rfl; have p1 := Bp.2.1 1 _ rfl; have p2 := Bp.2.1 2 _ rfl; have pl := Bp.1
    have n0 := Bn.2.1 0 _ rfl; have n1 := Bn.2.1 1 _ rfl; have n2 := Bn.2.1 2 _ rfl; have nf := Bn.2.2; have nl := Bn.1
    by_cases hlt : n ≤ 12
    · obtain ⟨g, rfl⟩ : ∃ g, f = g + 1 := ⟨f - 1, by omega⟩
      have HAA := HA.out u v t hPV
      have hw1 : wrap64 (n + 1) = n + 1 := win (by omega)
      rcases hs : EC.sumO A (u, v, t) (x, y, e) with _ | ⟨a, b, c⟩
      · have hg := HG.out
        rw [ordGo_none hs] at hg
        simp only [Prod.mk.injEq] at hg
        obtain ⟨rfl, rfl⟩ := hg
        rw [sumV_none hs] at HAA
        have HAA := Lib.hid HAA
        clear HG hs hPV HA HS
        go_wp2_with fail
        refine (HAA.out _).mono ?_
        rintro e9 wa ⟨rfl, hba⟩
        have hza := hba.size
        go_wp2_with fail
        go_ret2
        exact gives rfl gr
      · have hq := HS.out u v t _ hPV hs
        rw [sumV_some hs] at HAA
        have HAA := Lib.hid HAA
        by_cases hc : c = 0
        · have hg := HG.out
          rw [ordGo_fin hs hc] at hg
          simp only [Prod.mk.injEq] at hg
          obtain ⟨rfl, rfl⟩ := hg
          subst hc
          clear HG hs hPV HA HS hq
          go_wp2_with fail
          refine (HAA.out _).mono ?_
          rintro e9 wa ⟨rfl, hba⟩
          have hza := hba.size
          go_wp2_with fail
          go_ret2
          exact gives rfl gr
        · have hg := HG.out
          rw [ordGo_go hs hc] at hg
          have HG2 := Lib.hid hg
          have hcb : (c == 0) = false := by simpa using hc
          clear HG hs hPV HA HS hg hc
          go_wp2_with fail
          refine (HAA.out _).mono ?_
          rintro e9 wa ⟨rfl, hba⟩
          have hza := hba.size
          have Bc2 := Bc.below hba; have Bp2 := Bp.below hba; have Bn2 := Bn.below hba
          have q0 := Bn2.2.1 0 _ rfl; have q1 := Bn2.2.1 1 _ rfl; have q2 := Bn2.2.1 2 _ rfl; have qf := Bn2.2.2; have ql := Bn2.1
          go_wp2_with fail
          go_roundw
          case rel => exact ⟨n + 1, g, a, b, c, rfl, by omega, by omega, hq, HG2, Box.alloc (Box.set_ne (Box.set_ne (Box.set_ne Bc2 (by first | (simp; done) | (simp; omega)) _) (by first | (simp; done) | (simp; omega)) _) (by first | (simp; done) | (simp; omega)) _) _, Box.alloc (Box.set_ne (Box.set_ne (Box.set_ne Bp2 (by first | (simp; done) | (simp; omega)) _) (by first | (simp; done) | (simp; omega)) _) (by first | (simp; done) | (simp; omega)) _) _, Box.alloc (Box.set (Box.set (Box.set Bn2 0 (by simp) _) 1 (by simp) _) 2 (by simp) _) _, gr⟩
          case measure => simp [intOf]; omega
    · obtain rfl : f = 0 := by omega
      have hg := HG.out
      rw [ordGo] at hg
      simp only [Prod.mk.injEq] at hg
      obtain ⟨rfl, rfl⟩ := hg
      clear HG hPV HA HS
      go_wp2_with fail
      go_ret2
      exact gives rfl gr
theorem mulV_none {A : Int} {p : P3} {n : Nat} (h : mulO A p n = none) : mulV A p n = .tuple #[.agg #[.int .i64 0, .int .i64 0, .int .i64 0], .bool false] := by unfold mulV; rw [h]
theorem mulV_some {A a b c : Int} {p : P3} {n : Nat} (h : mulO A p n = some (a, b, c)) : mulV A p n = .tuple #[.agg #[.int .i64 a, .int .i64 b, .int .i64 c], .bool true] := by unfold mulV; rw [h]
set_option maxRecDepth 100000 in
set_option maxHeartbeats 4000000 in
theorem ptTimes_any (A B x y e : Int) (N : Nat) (hN : N ≤ 1000000) (hC : isC A B = true) (hp : EC.PV A B (x, y, e)) (w : World) :
    Calls Tryz.prog 107 #[.agg #[.int .i64 A, .int .i64 B], .agg #[.int .i64 x, .int .i64 y, .int .i64 e], .int .i64 N] w (Gives (mulV A (x, y, e) N) w) := by
  have HA := Lib.hid (fun u v t (h : EC.PV A B (u, v, t)) W => ptAdd_any A B u v t x y e hC h hp W)
  have HS := Lib.hid (fun u v t r (h : EC.PV A B (u, v, t)) (h2 : EC.sumO A (u, v, t) (x, y, e) = some r) => (EC.sumO_PV h hp h2).1)
  obtain ⟨R, hR⟩ : ∃ R, mulV A (x, y, e) N = R := ⟨_, rfl⟩
  rw [hR]
  have HR := Lib.hid hR
  clear hR hC hp
  have hNn : ¬ ((N : Int) < 0) := by omega
  go_enter Tryz.func107, Tryz.ntmps107
  go_wp2_with fail
  refine name_world (fun W1 hW1 => ?_)
  have Bc : Box W1 w.heap.size [.int .i64 A, .int .i64 B] := by subst hW1; exact box_two (by first | omega | (simp; done) | (simp; omega)) (by simp [go_sem]) (by simp [go_sem]) (fun o => by simp [go_sem])
  have Bp : Box W1 (w.heap.size + 1) [.int .i64 x, .int .i64 y, .int .i64 e] := by subst hW1; exact box_three (by first | omega | (simp; done) | (simp; omega)) (by simp [go_sem]) (by simp [go_sem]) (by simp [go_sem]) (fun o => by simp [go_sem])
  have Br : Box W1 (w.heap.size + 1 + 1) [.int .i64 0, .int .i64 0, .int .i64 0] := by subst hW1; exact box_three (by first | omega | (simp; done) | (simp; omega)) (by simp [go_sem]) (by simp [go_sem]) (by simp [go_sem]) (fun o => by simp [go_sem])
  have Bn : Box W1 (w.heap.size + 1 + 1 + 1) [.int .i64 0, .int .i64 0, .int .i64 0] := by subst hW1; exact box_three (by first | omega | (simp; done) | (simp; omega)) (by simp [go_sem]) (by simp [go_sem]) (by simp [go_sem]) (fun o => by simp [go_sem])
  have hB : Below w.heap.size w W1 := by subst hW1; exact gr
  clear hW1
  go_loopw [2] (fun v2 wr => ∃ (m : Int) (j : Nat) (u v t : Int), v2 = .int .i64 m ∧ 0 ≤ m ∧ m + j = N ∧ EC.PV A B (u, v, t) ∧ Hid (mulO A (x, y, e) j = some (u, v, t)) ∧ Box wr w.heap.size [.int .i64 A, .int .i64 B] ∧ Box wr (w.heap.size + 1) [.int .i64 x, .int .i64 y, .int .i64 e] ∧ Box wr (w.heap.size + 1 + 1) [.int .i64 0, .int .i64 0, .int .i64 0] ∧ Box wr (w.heap.size + 1 + 1 + 1) [.int .i64 u, .int .i64 v, .int .i64 t] ∧ Below w.heap.size w wr) (fun v2 _ => (intOf v2).toNat)
  case atStart => exact ⟨N, 0, 0, 0, 0, rfl, by omega, by omega, .inl rfl, Lib.hid rfl, Bc, Bp, Br, Bn, hB⟩
  case round =>
    clear Bc Bp Bn Br hB hNn
    obtain ⟨m, j, u, v, t, rfl, hm0, hmj, hPV, HG, Bc, Bp, Br, Bn, hB⟩ := hrel
    have c0 := Bc.2.1 0 _ rfl; have c1 := Bc.2.1 1 _ rfl; have cl := Bc.1
    have p0 := Bp.2.1 0 _ rfl; have p1 := Bp.2.1 1 _ rfl; have p2 := Bp.2.1 2 _ rfl; have pl := Bp.1
    have n0 := Bn.2.1 0 _ rfl; have n1 := Bn.2.1 1 _ rfl; have n2 := Bn.2.1 2 _ rfl; have nf := Bn.2.2; have nl := Bn.1
    have r0 := Br.2.1 0 _ rfl; have r1 := Br.2.1 1 _ rfl; have r2 := Br.2.1 2 _ rfl; have rf := Br.2.2; have rl := Br.1
    by_cases hlt : 0 < m
    · have HAA := HA.out u v t hPV
      have hw1 : wrap64 (m - 1) = m - 1 := win (by omega)
      rcases hs : EC.sumO A (u, v, t) (x, y, e) with _ | ⟨a, b, c⟩
      · have h2 : mulO A (x, y, e) N = none := by
          have h3 : mulO A (x, y, e) (j + 1) = none := by rw [mulO_succ HG.out, hs]
          have := mulO_none h3 (N - (j + 1))
          rwa [show j + 1 + (N - (j + 1)) = N by omega] at this
        have HV := Lib.hid (show R = .tuple #[.agg #[.int .i64 0, .int .i64 0, .int .i64 0], .bool false] from by rw [← HR.out, mulV_none h2])
        rw [sumV_none hs] at HAA
        have HAA := Lib.hid HAA
        clear HG hs hPV HA HS HR h2
        go_wp2_with fail
        refine (HAA.out _).mono ?_
        rintro e9 wa ⟨rfl, hba⟩
        have hza := hba.size
        have Br2 := Br.below hba
        have s0 := Br2.2.1 0 _ rfl; have s1 := Br2.2.1 1 _ rfl; have s2 := Br2.2.1 2 _ rfl; have sf := Br2.2.2; have sl := Br2.1
        go_wp2_with fail
        refine bodyPost_ret (v := .tuple #[.agg #[.int .i64 0, .int .i64 0, .int .i64 0], .bool false]) (by simp [results, Tryz.results107, go_sem, s0, s1, s2, sf, sl]) rfl (gives HV.out.symm gr)
      · have hq := HS.out u v t _ hPV hs
        rw [sumV_some hs] at HAA
        have HAA := Lib.hid HAA
        have HG2 := Lib.hid ((mulO_succ HG.out).trans hs)
        clear HG hs hPV HA HS
        go_wp2_with fail
        refine (HAA.out _).mono ?_
        rintro e9 wa ⟨rfl, hba⟩
        have hza := hba.size
        have Bc2 := Bc.below hba; have Bp2 := Bp.below hba; have Bn2 := Bn.below hba; have Br2 := Br.below hba
        have q0 := Bn2.2.1 0 _ rfl; have q1 := Bn2.2.1 1 _ rfl; have q2 := Bn2.2.1 2 _ rfl; have qf := Bn2.2.2; have ql := Bn2.1
        go_wp2_with fail
        go_roundw
        case rel => exact ⟨m - 1, j + 1, a, b, c, rfl, by omega, by omega, hq, HG2, Box.alloc (Box.set_ne (Box.set_ne (Box.set_ne Bc2 (by first | (simp; done) | (simp; omega)) _) (by first | (simp; done) | (simp; omega)) _) (by first | (simp; done) | (simp; omega)) _) _, Box.alloc (Box.set_ne (Box.set_ne (Box.set_ne Bp2 (by first | (simp; done) | (simp; omega)) _) (by first | (simp; done) | (simp; omega)) _) (by first | (simp; done) | (simp; omega)) _) _, Box.alloc (Box.set_ne (Box.set_ne (Box.set_ne Br2 (by first | (simp; done) | (simp; omega)) _) (by first | (simp; done) | (simp; omega)) _) (by first | (simp; done) | (simp; omega)) _) _, Box.alloc (Box.set (Box.set (Box.set Bn2 0 (by simp) _) 1 (by simp) _) 2 (by simp) _) _, gr⟩
        case measure => simp [intOf]; omega
    · obtain rfl : j = N := by omega
      have HV := Lib.hid (show R = .tuple #[.agg #[.int .i64 u, .int .i64 v, .int .i64 t], .bool true] from by rw [← HR.out, mulV_some HG.out])
      clear HG hPV HA HS HR
      go_wp2_with fail
      refine bodyPost_ret (v := .tuple #[.agg #[.int .i64 u, .int .i64 v, .int .i64 t], .bool true]) (by simp [results, Tryz.results107, go_sem, r0, r1, r2, rf, rl]) rfl (gives HV.out.symm gr)
set_option maxRecDepth 100000 in
set_option maxHeartbeats 4000000 in
theorem ptOrder_any (A B x y e : Int) (hC : isC A B = true) (hp : EC.PV A B (x, y, e)) (w : World) :
    Calls Tryz.prog 86 #[.agg #[.int .i64 A, .int .i64 B], .agg #[.int .i64 x, .int .i64 y, .int .i64 e]] w (Gives (.tuple #[.int .i64 (ordV A (x, y, e)).1, .bool (ordV A (x, y, e)).2]) w) := by
  have HA := Lib.hid (fun N (h : N ≤ 1000000) W => ptTimes_any A B x y e N h hC hp W)
  obtain ⟨R1, R2, hR⟩ : ∃ R1 R2, ordV A (x, y, e) = (R1, R2) := ⟨_, _, rfl⟩
  rw [hR]
  dsimp only
  have HR := Lib.hid (show ordGo A (x, y, e) 12 1 (0, 0, 0) = (R1, R2) from hR)
  clear hR hC hp
  go_enter Tryz.func86, Tryz.ntmps86
  go_wp2
  refine name_world (fun W1 hW1 => ?_)
  have Bc : Box W1 w.heap.size [.int .i64 A, .int .i64 B] := by subst hW1; exact box_two (by first | omega | (simp; done) | (simp; omega)) (by simp [go_sem]) (by simp [go_sem]) (fun o => by simp [go_sem])
  have Bp : Box W1 (w.heap.size + 1) [.int .i64 x, .int .i64 y, .int .i64 e] := by subst hW1; exact box_three (by first | omega | (simp; done) | (simp; omega)) (by simp [go_sem]) (by simp [go_sem]) (by simp [go_sem]) (fun o => by simp [go_sem])
  have hB : Below w.heap.size w W1 := by subst hW1; exact gr
  clear hW1
  go_loopw [6] (fun v6 wr => ∃ (n : Int) (j f : Nat) (q : P3), v6 = .int .i64 n ∧ n = (j : Int) + 1 ∧ j + f = 12 ∧ Hid (mulO A (x, y, e) j = some q) ∧ Hid (ordGo A (x, y, e) f n q = (R1, R2)) ∧ Box wr w.heap.size [.int .i64 A, .int .i64 B] ∧ Box wr (w.heap.size + 1) [.int .i64 x, .int .i64 y, .int .i64 e] ∧ Below w.heap.size w wr) (fun v6 _ => (13 - intOf v6).toNat)
  case atStart => exact ⟨1, 0, 12, (0, 0, 0), rfl, rfl, by omega, Lib.hid rfl, HR, Bc, Bp, hB⟩
  case round =>
    clear HR Bc Bp hB
    obtain ⟨n, j, f, q, rfl, hnj, hjf, HM, HG, Bc, Bp, hB⟩ := hrel
    have c0 := Bc.2.1 0 _ rfl; have c1 := Bc.2.1 1 _ rfl; have cl := Bc.1
    have p0 := Bp.2.1 0 _ rfl; have p1 := Bp.2.1 1 _ rfl; have p2 := Bp.2.1 2 _ rfl; have pl := Bp.1
    by_cases hlt : n ≤ 12
    · obtain ⟨g, rfl⟩ : ∃ g, f = g + 1 := ⟨f - 1, by omega⟩
      have HAA := HA.out (j + 1) (by omega)
      have en : ((j + 1 : Nat) : Int) = n := by omega
      rw [en] at HAA
      have hw1 : wrap64 (n + 1) = n + 1 := win (by omega)
      have hms := mulO_succ HM.out
      have hn0 : 1 ≤ n := by omega
      have hnj2 := Lib.hid (show n + 1 = ((j + 1 : Nat) : Int) + 1 by omega)
      clear en hnj
      rcases hs : EC.sumO A q (x, y, e) with _ | ⟨a, b, c⟩
      · have hg := HG.out
        rw [ordGo_none hs] at hg
        simp only [Prod.mk.injEq] at hg
        obtain ⟨rfl, rfl⟩ := hg
        rw [mulV_none (hms.trans hs)] at HAA
        have HAA := Lib.hid HAA
        clear HG hs HM HA hms
        go_wp2_with fail
        refine (HAA.out _).mono ?_
        rintro e9 wa ⟨rfl, hba⟩
        have hza := hba.size
        go_wp2_with fail
        go_ret2
        exact gives rfl gr
      · rw [mulV_some (hms.trans hs)] at HAA
        have HAA := Lib.hid HAA
        by_cases hc : c = 0
        · have hg := HG.out
          rw [ordGo_fin hs hc] at hg
          simp only [Prod.mk.injEq] at hg
          obtain ⟨rfl, rfl⟩ := hg
          subst hc
          clear HG hs HM HA hms
          go_wp2_with fail
          refine (HAA.out _).mono ?_
          rintro e9 wa ⟨rfl, hba⟩
          have hza := hba.size
          go_wp2_with fail
          go_ret2
          exact gives rfl gr
        · have hg := HG.out
          rw [ordGo_go hs hc] at hg
          have HG2 := Lib.hid hg
          have HM2 := Lib.hid (hms.trans hs)
          have hcb : (c == 0) = false := by simpa using hc
          clear HG hs HA hg hc HM hms
          go_wp2_with fail
          refine (HAA.out _).mono ?_
          rintro e9 wa ⟨rfl, hba⟩
          have hza := hba.size
          have Bc2 := Bc.below hba; have Bp2 := Bp.below hba
          go_wp2_with fail
          go_roundw
          case rel => exact ⟨n + 1, j + 1, g, _, rfl, hnj2.out, by omega, HM2, HG2, Box.alloc Bc2 _, Box.alloc Bp2 _, gr⟩
          case measure => simp [intOf]; omega
    · obtain rfl : f = 0 := by omega
      have hg := HG.out
      rw [ordGo] at hg
      simp only [Prod.mk.injEq] at hg
      obtain ⟨rfl, rfl⟩ := hg
      clear HG HA HM
      go_wp2_with fail
      go_ret2
      exact gives rfl gr
theorem toOrder_any (A B x y e : Int) (hC : isC A B = true) (hp : EC.PV A B (x, y, e)) (w : World) :
    Calls Tryz.prog 64 #[.agg #[.int .i64 A, .int .i64 B], .agg #[.int .i64 x, .int .i64 y, .int .i64 e]] w (Gives (.int .i64 (ordV A (x, y, e)).1) w) := by
  have HA := Lib.hid (fun W => ptOrder_any A B x y e hC hp W)
  generalize ordV A (x, y, e) = R at *
  go_enter Tryz.func64, Tryz.ntmps64
  go_wp2_with fail
  refine (HA.out _).mono ?_
  rintro e9 wa ⟨rfl, hba⟩
  have hza := hba.size
  go_wp2_with fail
  go_ret
  exact gives rfl gr
end Go.Proofs.YtjgdajeoeagggaaGreat
