import Derived.Test.YtngnnkbgiligaaaPtR
set_option linter.unusedSimpArgs false
set_option linter.unusedVariables false
namespace Go.Proofs.Ytngnnkbgiligaaa
open Go.RowKit
/-! ### the program's sum of points is the rational one -/

theorem side_sign {Y m E e s : Int} (hE : 0 < E) (he : 0 < e) (hm : m ≠ 0) (h : Y * (m * E) = e * s) (R : Int) (hR : R = Y.natAbs) : Y = (if (decide (s < 0) != decide (m < 0)) = true then -R else R) := by
  subst hR
  rcases Int.lt_trichotomy Y 0 with y | y | y <;> rcases Int.lt_or_lt_of_ne hm with g | g
  · have h1 : 0 < Y * (m * E) := Int.mul_pos_of_neg_of_neg y (Int.mul_neg_of_neg_of_pos g hE)
    have h2 : ¬ s < 0 := fun hs => by have := Int.mul_neg_of_pos_of_neg he hs; omega
    simp [h2, g]; omega
  · have h1 : Y * (m * E) < 0 := Int.mul_neg_of_neg_of_pos y (Int.mul_pos g hE)
    have h2 : s < 0 := by
      rcases Int.lt_or_le s 0 with q | q
      · exact q
      · have := Int.mul_nonneg (show 0 ≤ e by omega) q; omega
    have h3 : ¬ m < 0 := by omega
    simp [h2, h3]; omega
  · subst y; simp
  · subst y; simp
  · have h1 : Y * (m * E) < 0 := Int.mul_neg_of_pos_of_neg y (Int.mul_neg_of_neg_of_pos g hE)
    have h2 : s < 0 := by
      rcases Int.lt_or_le s 0 with q | q
      · exact q
      · have := Int.mul_nonneg (show 0 ≤ e by omega) q; omega
    simp [h2, g]; omega
  · have h1 : 0 < Y * (m * E) := Int.mul_pos y (Int.mul_pos g hE)
    have h2 : ¬ s < 0 := fun hs => by have := Int.mul_neg_of_pos_of_neg he hs; omega
    have h3 : ¬ m < 0 := by omega
    simp [h2, h3]; omega
theorem abs_le_mul {e s : Int} (he : 1 ≤ e) : s.natAbs ≤ (e * s).natAbs := by
  rw [Int.natAbs_mul]; exact Nat.le_mul_of_pos_left _ (by omega)
theorem side_ok {x1 y1 e1 n m X e Y : Int} (p3 : e1.natAbs ≤ 20) (v2 : Y.natAbs ≤ 2000000) (hm : m.natAbs ≤ 8000) (he1 : 1 ≤ e) (hside : Y * (m * (e1 * e1 * e1)) = e * EC.sideI (x1, y1, e1) n m X e) :
    wrap64 (wrap64 (wrap64 (n * wrap64 (wrap64 (wrap64 (x1 * e) * e) - wrap64 (wrap64 (X * e1) * e1))) * e1) - wrap64 (wrap64 (wrap64 (y1 * m) * e) * e)) = EC.sideI (x1, y1, e1) n m X e := by
  have bside : (EC.sideI (x1, y1, e1) n m X e).natAbs ≤ 128000000000000 := by
    have h5 := abs_le_mul (e := e) (s := EC.sideI (x1, y1, e1) n m X e) he1
    rw [← hside] at h5
    exact Nat.le_trans h5 (Nat.le_trans (nmul v2 (nmul hm (nmul (nmul p3 p3) p3))) (by decide))
  have e5 : EC.sideI (x1, y1, e1) n m X e = n * (x1 * e * e - X * e1 * e1) * e1 - y1 * m * e * e := by simp only [EC.sideI]
  rw [e5] at bside ⊢
  simp only [wadd_l, wadd_r, wsub_l, wsub_r, wmul_l, wmul_r]
  clear hside e5
  generalize n * (x1 * e * e - X * e1 * e1) * e1 - y1 * m * e * e = V at *
  exact win (by omega)
theorem hit_all {A B x1 y1 e1 n m X e Y : Int} (hA : -1000 ≤ A ∧ A ≤ 1000) (hB : -10000 ≤ B ∧ B ≤ 10000) (p3 : e1.natAbs ≤ 20) (h1 : 1 ≤ e1) (hm : m.natAbs ≤ 8000) (hm0 : m ≠ 0) (he1 : 1 ≤ e) (he2 : e ≤ 20) (hX1 : -10000 ≤ X) (hX2 : X ≤ 10000) (v2 : Y.natAbs ≤ 2000000)
    (hY : Y * Y = cvI A B X e) (hside : Y * (m * (e1 * e1 * e1)) = e * EC.sideI (x1, y1, e1) n m X e) :
    sqB (cVal A B X e) = true ∧ cVal A B X e ≤ 4000000000000 ∧
      wrap64 (wrap64 (wrap64 (n * wrap64 (wrap64 (wrap64 (x1 * e) * e) - wrap64 (wrap64 (X * e1) * e1))) * e1) - wrap64 (wrap64 (wrap64 (y1 * m) * e) * e)) = EC.sideI (x1, y1, e1) n m X e ∧ Y = (if (decide (EC.sideI (x1, y1, e1) n m X e < 0) != decide (m < 0)) = true then -rt (cVal A B X e) else rt (cVal A B X e)) := by
  have hcv := cvI_rng (a := A) (b := B) (x := X) (e := e) hA hB ⟨hX1, hX2⟩ ⟨by omega, by omega⟩
  have hcc := cVal_in (a := A) (b := B) (x := X) (e := e) hA hB ⟨hX1, hX2⟩ ⟨by omega, by omega⟩
  have hrt : rt (cVal A B X e) = Y.natAbs := by
    rw [hcc, ← hY]
    exact rt_sq (by omega) (Int.natAbs_mul_self' Y)
  have hE0 : 0 < e1 * e1 * e1 := Int.mul_pos (Int.mul_pos (by omega) (by omega)) (by omega)
  exact ⟨sqB_iff.2 ⟨Y.natAbs, by omega, by rw [hcc, ← hY]; exact Int.natAbs_mul_self' Y⟩, by rw [hcc]; exact hcv.2, side_ok p3 v2 hm he1 hside, side_sign hE0 (by omega) hm0 hside _ hrt⟩
set_option maxRecDepth 100000 in
set_option maxHeartbeats 4000000 in
theorem addPoints_zl (A B x2 y2 e2 : Int) (hq : EC.PV A B (x2, y2, e2)) (w : World) :
    Calls Try.prog 72 #[.agg #[.int .i64 A, .int .i64 B], .agg #[.int .i64 0, .int .i64 0, .int .i64 0], .agg #[.int .i64 x2, .int .i64 y2, .int .i64 e2]] w (Gives (sumV A (0, 0, 0) (x2, y2, e2)) w) := by
  unfold sumV
  rw [sumO_zl hq]
  clear hq
  go_enter Try.func72, Try.ntmps72
  go_wp2
  refine bodyPost_ret (v := .tuple #[.agg #[.int .i64 x2, .int .i64 y2, .int .i64 e2], .bool true]) (by simp [results, Try.results72, go_sem]) rfl (gives rfl (by repeat' (first | (with_reducible exact Below.refl _ _) | (with_reducible assumption) | (with_reducible refine Below.alloc ?_ ?_ _) | (with_reducible refine Below.setCell ?_ ?_ _) | (with_reducible refine Below.drew ?_) | (with_reducible refine below_drewN ?_ _) | (apply bthen2; (with_reducible assumption)) | go_size)))
set_option maxRecDepth 100000 in
set_option maxHeartbeats 4000000 in
theorem addPoints_zr (A B x1 y1 e1 : Int) (h1 : e1 ≠ 0) (hq : EC.PV A B (x1, y1, e1)) (w : World) :
    Calls Try.prog 72 #[.agg #[.int .i64 A, .int .i64 B], .agg #[.int .i64 x1, .int .i64 y1, .int .i64 e1], .agg #[.int .i64 0, .int .i64 0, .int .i64 0]] w (Gives (sumV A (x1, y1, e1) (0, 0, 0)) w) := by
  unfold sumV
  rw [sumO_zr hq]
  have k1 : (e1 == 0) = false := by simpa using h1
  clear hq
  go_enter Try.func72, Try.ntmps72
  go_wp2
  refine bodyPost_ret (v := .tuple #[.agg #[.int .i64 x1, .int .i64 y1, .int .i64 e1], .bool true]) (by simp [results, Try.results72, go_sem]) rfl (gives rfl (by repeat' (first | (with_reducible exact Below.refl _ _) | (with_reducible assumption) | (with_reducible refine Below.alloc ?_ ?_ _) | (with_reducible refine Below.setCell ?_ ?_ _) | (with_reducible refine Below.drew ?_) | (with_reducible refine below_drewN ?_ _) | (apply bthen2; (with_reducible assumption)) | go_size)))
set_option maxRecDepth 100000 in
set_option maxHeartbeats 4000000 in
theorem addPoints_opp (A B x2 y2 e2 : Int) (h2 : e2 ≠ 0) (ry : -2000000 ≤ y2 ∧ y2 ≤ 2000000) (hS : EC.sumO A (x2, -y2, e2) (x2, y2, e2) = some (0, 0, 0)) (w : World) :
    Calls Try.prog 72 #[.agg #[.int .i64 A, .int .i64 B], .agg #[.int .i64 x2, .int .i64 (-y2), .int .i64 e2], .agg #[.int .i64 x2, .int .i64 y2, .int .i64 e2]] w (Gives (sumV A (x2, -y2, e2) (x2, y2, e2)) w) := by
  unfold sumV
  rw [hS]
  have k2 : (e2 == 0) = false := by simpa using h2
  have HO := Lib.hid (fun W => opposite_any x2 y2 e2 (by omega) (by omega) W)
  clear hS ry
  go_enter Try.func72, Try.ntmps72
  go_upto_region 5 with fail
  refine name_world (fun W1 hW1 => ?_)
  have B1 : Box W1 (w.heap.size + 1) [.int .i64 x2, .int .i64 (-y2), .int .i64 e2] := by subst hW1; exact box_three (by first | omega | (simp; done) | (simp; omega)) (by simp [go_sem]) (by simp [go_sem]) (by simp [go_sem]) (fun o => by simp [go_sem])
  have B2 : Box W1 (w.heap.size + 1 + 1) [.int .i64 x2, .int .i64 y2, .int .i64 e2] := by subst hW1; exact box_three (by first | omega | (simp; done) | (simp; omega)) (by simp [go_sem]) (by simp [go_sem]) (by simp [go_sem]) (fun o => by simp [go_sem])
  have BR : Box W1 (w.heap.size + 1 + 1 + 1) [.int .i64 0, .int .i64 0, .int .i64 0] := by subst hW1; exact box_three (by first | omega | (simp; done) | (simp; omega)) (by simp [go_sem]) (by simp [go_sem]) (by simp [go_sem]) (fun o => by simp [go_sem])
  have hB1 : Below w.heap.size w W1 := by subst hW1; exact (by repeat' (first | (with_reducible exact Below.refl _ _) | (with_reducible assumption) | (with_reducible refine Below.alloc ?_ ?_ _) | (with_reducible refine Below.setCell ?_ ?_ _) | (with_reducible refine Below.drew ?_) | (with_reducible refine below_drewN ?_ _) | (apply bthen2; (with_reducible assumption)) | go_size))
  clear hW1
  have z0 := B1.2.1 0 _ rfl; have z1 := B1.2.1 1 _ rfl; have z2 := B1.2.1 2 _ rfl; have zl := B1.1
  have y0 := B2.2.1 0 _ rfl; have yy1 := B2.2.1 1 _ rfl; have yy2 := B2.2.1 2 _ rfl; have yl := B2.1
  go_region_held3 (fun w' => Below W1.heap.size W1 w' ∧ w'.cell? ⟨w.heap.size + 1, 0, none⟩ = some (.int .i64 x2) ∧ w'.cell? ⟨w.heap.size + 1, 1, none⟩ = some (.int .i64 (-y2)) ∧ w'.cell? ⟨w.heap.size + 1, 2, none⟩ = some (.int .i64 e2) ∧ w'.cell? ⟨w.heap.size + 1 + 1, 0, none⟩ = some (.int .i64 x2) ∧ w'.cell? ⟨w.heap.size + 1 + 1, 1, none⟩ = some (.int .i64 y2) ∧ w'.cell? ⟨w.heap.size + 1 + 1, 2, none⟩ = some (.int .i64 e2)) ((refine (fun hbK => And.intro hbK (by exact ⟨(hbK.cell (p := ⟨w.heap.size + 1, 0, none⟩) (by first | assumption | omega | (simp; omega))).trans z0, (hbK.cell (p := ⟨w.heap.size + 1, 1, none⟩) (by first | assumption | omega | (simp; omega))).trans z1, (hbK.cell (p := ⟨w.heap.size + 1, 2, none⟩) (by first | assumption | omega | (simp; omega))).trans z2, (hbK.cell (p := ⟨w.heap.size + 1 + 1, 0, none⟩) (by first | assumption | omega | (simp; omega))).trans y0, (hbK.cell (p := ⟨w.heap.size + 1 + 1, 1, none⟩) (by first | assumption | omega | (simp; omega))).trans yy1, (hbK.cell (p := ⟨w.heap.size + 1 + 1, 2, none⟩) (by first | assumption | omega | (simp; omega))).trans yy2⟩)) ?_; repeat' (first | (with_reducible exact Below.refl _ _) | (with_reducible assumption) | (with_reducible refine Below.alloc ?_ ?_ _) | (with_reducible refine Below.setCell ?_ ?_ _) | (with_reducible refine Below.drew ?_) | (with_reducible refine below_drewN ?_ _) | (apply bthen2; (with_reducible assumption)) | go_size))) ((first | (go_at_call 69; refine (HO.out _).mono ?_; rintro e wf ⟨rfl, hbf⟩; have BR2 := Box.below (show Box _ (w.heap.size + 1 + 1 + 1) [.int .i64 0, .int .i64 0, .int .i64 0] from (by (repeat' (first | (with_reducible assumption) | (with_reducible refine Box.alloc ?_ _) | (with_reducible refine Box.drew ?_))))) hbf; have f0 := BR2.2.1 0 _ rfl; have f1 := BR2.2.1 1 _ rfl; have f2 := BR2.2.1 2 _ rfl; have ff := BR2.2.2; have fl := BR2.1)))
  repeat (first | go_values | go_skip | go_guarded | go_step | go_upon)
  refine bodyPost_ret (v := .tuple #[.agg #[.int .i64 0, .int .i64 0, .int .i64 0], .bool true]) (by simp [results, Try.results72, go_sem, f0, f1, f2, ff, fl]) rfl (gives rfl (by repeat' (first | (with_reducible exact Below.refl _ _) | (with_reducible assumption) | (with_reducible refine Below.alloc ?_ ?_ _) | (with_reducible refine Below.setCell ?_ ?_ _) | (with_reducible refine Below.drew ?_) | (with_reducible refine below_drewN ?_ _) | (apply bthen2; (with_reducible assumption)) | go_size)))
set_option maxHeartbeats 8000000 in
theorem addPoints_any (A B x1 y1 e1 x2 y2 e2 : Int) (hC : isC A B = true) (hp : EC.PV A B (x1, y1, e1)) (hq : EC.PV A B (x2, y2, e2)) (w : World) :
    Calls Try.prog 72 #[.agg #[.int .i64 A, .int .i64 B], .agg #[.int .i64 x1, .int .i64 y1, .int .i64 e1], .agg #[.int .i64 x2, .int .i64 y2, .int .i64 e2]] w (Gives (sumV A (x1, y1, e1) (x2, y2, e2)) w) := by
  obtain ⟨hA, hB⟩ := isC_rng hC
  by_cases h1 : e1 = 0
  · obtain ⟨rfl, rfl⟩ := PV.z hp h1
    subst h1
    exact addPoints_zl A B x2 y2 e2 hq w
  by_cases h2 : e2 = 0
  · obtain ⟨rfl, rfl⟩ := PV.z hq h2
    subst h2
    exact addPoints_zr A B x1 y1 e1 h1 hp w
  have rp := PV.rng hA hB hp
  have rq := PV.rng hA hB hq
  have rN := sN_rng (A := A) (by omega) rp rq
  have rD := sD_rng rp rq
  by_cases hno : (x1, y1, e1) = EC.opp (x2, y2, e2)
  · have hS := EC.add_opp hp hq hno
    simp only [EC.opp, Prod.mk.injEq] at hno
    obtain ⟨rfl, rfl, rfl⟩ := hno
    exact addPoints_opp A B x1 y2 e1 h1 (by have := rq.2.1; simp only at this; omega) hS w
  have hno2 : ¬ (x1 = x2 ∧ y1 = -y2 ∧ e1 = e2) := by
    rintro ⟨rfl, rfl, rfl⟩; exact hno rfl
  have hsd := (EC.add_slope hp hq h1 h2 hno).1
  have g1 := gcd_ne (EC.sN A (x1, y1, e1) (x2, y2, e2)) (EC.sD (x1, y1, e1) (x2, y2, e2)) hsd
  have HS0 := fun w => slope_any A B x1 y1 e1 x2 y2 e2 (by omega) (by omega) (by omega) (by omega) w
  unfold slV at HS0
  have HG0 := fun w => (gcd_any (EC.sN A (x1, y1, e1) (x2, y2, e2)) (EC.sD (x1, y1, e1) (x2, y2, e2)) (by omega) (by omega) (by omega) (by omega) w).mono fun _ _ h => gives_of_quiet h
  have hgn : ((Int.gcd (EC.sN A (x1, y1, e1) (x2, y2, e2)) (EC.sD (x1, y1, e1) (x2, y2, e2)) : Nat) : Int) ∣ EC.sN A (x1, y1, e1) (x2, y2, e2) := Int.gcd_dvd_left ..
  have hgm : ((Int.gcd (EC.sN A (x1, y1, e1) (x2, y2, e2)) (EC.sD (x1, y1, e1) (x2, y2, e2)) : Nat) : Int) ∣ EC.sD (x1, y1, e1) (x2, y2, e2) := Int.gcd_dvd_right ..
  have bn := tdiv_bd (EC.sN A (x1, y1, e1) (x2, y2, e2)) ((Int.gcd (EC.sN A (x1, y1, e1) (x2, y2, e2)) (EC.sD (x1, y1, e1) (x2, y2, e2)) : Nat) : Int)
  have bm := tdiv_bd (EC.sD (x1, y1, e1) (x2, y2, e2)) ((Int.gcd (EC.sN A (x1, y1, e1) (x2, y2, e2)) (EC.sD (x1, y1, e1) (x2, y2, e2)) : Nat) : Int)
  have hgc : Int.gcd ((EC.sN A (x1, y1, e1) (x2, y2, e2)).tdiv ((Int.gcd (EC.sN A (x1, y1, e1) (x2, y2, e2)) (EC.sD (x1, y1, e1) (x2, y2, e2)) : Nat) : Int)) ((EC.sD (x1, y1, e1) (x2, y2, e2)).tdiv ((Int.gcd (EC.sN A (x1, y1, e1) (x2, y2, e2)) (EC.sD (x1, y1, e1) (x2, y2, e2)) : Nat) : Int)) = 1 := by
    have h := (low_spec (a := EC.sN A (x1, y1, e1) (x2, y2, e2)) hsd).2.2.2
    by_cases hs : EC.sD (x1, y1, e1) (x2, y2, e2) < 0
    · have hd : mkD (EC.sN A (x1, y1, e1) (x2, y2, e2)) (EC.sD (x1, y1, e1) (x2, y2, e2)) = -((Int.gcd (EC.sN A (x1, y1, e1) (x2, y2, e2)) (EC.sD (x1, y1, e1) (x2, y2, e2)) : Nat) : Int) := by unfold mkD; rw [if_pos hs]
      rw [hd, Int.tdiv_neg, Int.tdiv_neg, Int.gcd_neg, Int.neg_gcd] at h
      exact h
    · have hd : mkD (EC.sN A (x1, y1, e1) (x2, y2, e2)) (EC.sD (x1, y1, e1) (x2, y2, e2)) = ((Int.gcd (EC.sN A (x1, y1, e1) (x2, y2, e2)) (EC.sD (x1, y1, e1) (x2, y2, e2)) : Nat) : Int) := by unfold mkD; rw [if_neg hs]
      rw [hd] at h
      exact h
  have hn : (EC.sN A (x1, y1, e1) (x2, y2, e2)).tdiv ((Int.gcd (EC.sN A (x1, y1, e1) (x2, y2, e2)) (EC.sD (x1, y1, e1) (x2, y2, e2)) : Nat) : Int) * ((Int.gcd (EC.sN A (x1, y1, e1) (x2, y2, e2)) (EC.sD (x1, y1, e1) (x2, y2, e2)) : Nat) : Int) = EC.sN A (x1, y1, e1) (x2, y2, e2) := Int.tdiv_mul_cancel hgn
  have hm : (EC.sD (x1, y1, e1) (x2, y2, e2)).tdiv ((Int.gcd (EC.sN A (x1, y1, e1) (x2, y2, e2)) (EC.sD (x1, y1, e1) (x2, y2, e2)) : Nat) : Int) * ((Int.gcd (EC.sN A (x1, y1, e1) (x2, y2, e2)) (EC.sD (x1, y1, e1) (x2, y2, e2)) : Nat) : Int) = EC.sD (x1, y1, e1) (x2, y2, e2) := Int.tdiv_mul_cancel hgm
  obtain ⟨n, hnn⟩ : ∃ n, (EC.sN A (x1, y1, e1) (x2, y2, e2)).tdiv ((Int.gcd (EC.sN A (x1, y1, e1) (x2, y2, e2)) (EC.sD (x1, y1, e1) (x2, y2, e2)) : Nat) : Int) = n := ⟨_, rfl⟩
  obtain ⟨m, hmm⟩ : ∃ m, (EC.sD (x1, y1, e1) (x2, y2, e2)).tdiv ((Int.gcd (EC.sN A (x1, y1, e1) (x2, y2, e2)) (EC.sD (x1, y1, e1) (x2, y2, e2)) : Nat) : Int) = m := ⟨_, rfl⟩
  rw [hnn] at hn bn hgc
  rw [hmm] at hm bm hgc
  have hm0 : m ≠ 0 := by rintro rfl; rw [Int.zero_mul] at hm; exact hsd hm.symm
  obtain ⟨p1, p2, p3, p4⟩ := rp
  obtain ⟨q1, q2, q3, q4⟩ := rq
  simp only at p1 p2 p3 p4 q1 q2 q3 q4
  have bE : (e1 * e1 * e2 * e2).natAbs ≤ 160000 := Nat.le_trans (nmul (nmul (nmul p3 p3) q3) q3) (by decide)
  have bS : (x1 * e2 * e2 + x2 * e1 * e1).natAbs ≤ 8000000 := Nat.le_trans (nadd (nmul (nmul p1 q3) q3) (nmul (nmul q1 p3) p3)) (by decide)
  have kE : wrap64 (wrap64 (wrap64 (e1 * e1) * e2) * e2) = e1 * e1 * e2 * e2 := by simp only [wmul_l]; exact win (by omega)
  have kS : wrap64 (wrap64 (wrap64 (x1 * e2) * e2) + wrap64 (wrap64 (x2 * e1) * e1)) = x1 * e2 * e2 + x2 * e1 * e1 := by simp only [wadd_l, wadd_r, wmul_l]; exact win (by omega)
  have eB : EC.botI (x1, y1, e1) (x2, y2, e2) m = m * m * (e1 * e1 * e2 * e2) := rfl
  have eT : EC.topI (x1, y1, e1) (x2, y2, e2) n m = n * n * (e1 * e1 * e2 * e2) + -(m * m * (x1 * e2 * e2 + x2 * e1 * e1)) := by simp only [EC.topI, EC.eeI]; grind
  refine addPoints_main A B x1 y1 e1 x2 y2 e2 _ _ _ n m (e1 * e1 * e2 * e2) (x1 * e2 * e2 + x2 * e1 * e1) h1 h2 hno2 (by omega) HS0 HG0 (by omega) hnn hmm (by omega) (by omega) kE bE kS bS (by rw [← eB]; exact EC.bot_pos hp hq h1 h2 hm0) (fun x e W => curveValue_any A B x e W) ?_ ?_ w
  · intro e X he1 he2 hX1 hX2 hX hg
    rw [← eB, ← eT] at hX
    obtain ⟨Y, hs, hY, hside⟩ := EC.sum_hit hp hq h1 h2 hno hn hm he1 he2 hX1 hX2 hX hg
    have hsl := EC.sum_slope hp hq h1 h2 hno hn hm hgc hs
    have v2 := (PV.rng hA hB (sumO_fin hp hq hs)).2.1
    exact ⟨Y, hs, hit_all hA hB p3 (hp.fin h1).2.2.1 hsl.1 hm0 he1 he2 hX1 hX2 v2 hY hside⟩
  · intro X Y e h
    obtain ⟨m1, m2, m3, m4, m5, m6⟩ := EC.sum_miss hp hq h1 h2 hno hn hm h
    exact ⟨m1, m2, m3, m4, by rw [← eB, ← eT]; exact m5, m6⟩

end Go.Proofs.Ytngnnkbgiligaaa
