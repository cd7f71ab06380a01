import Derived.Test.YtaboopioocpkdaaFracB
set_option linter.unusedSimpArgs false
set_option linter.unusedVariables false
namespace Go.Proofs.Ytaboopioocpkdaa
open Go.RowKit

def poqG (a b d m n e : Int) : Bool := isT a b && inB m (-1000) 1000 && inB e (-1000) 1000 && inB n (-100000000) 100000000 && m != 0 && e != 0 && tcD b d
def poqX (d m e : Int) : Value := .agg #[.int .i64 ((d*m*m).tdiv (mkD (d*m*m) (e*e))), .int .i64 ((e*e).tdiv (mkD (d*m*m) (e*e)))]
def poqY (d m n e : Int) : Value := .agg #[.int .i64 ((d*m*n).tdiv (mkD (d*m*n) (e*e*e))), .int .i64 ((e*e*e).tdiv (mkD (d*m*n) (e*e*e)))]
def poqZ : Value := .tuple #[.agg #[.int .i64 0, .int .i64 0], .agg #[.int .i64 0, .int .i64 0], .bool false]
def poqR (a b d m n e : Int) : Value := if poqG a b d m n e && (qVal d a (b.tdiv d) m e == wrap64 (n*n)) && mkOk (d*m*m) (e*e) && mkOk (d*m*n) (e*e*e) then .tuple #[poqX d m e, poqY d m n e, .bool true] else poqZ
theorem mul_bd {x y a b : Int} (h1 : -a ≤ x) (h2 : x ≤ a) (h3 : -b ≤ y) (h4 : y ≤ b) : -(a*b) ≤ x*y ∧ x*y ≤ a*b := by
  have hx : x.natAbs ≤ a.toNat := by omega
  have hy : y.natAbs ≤ b.toNat := by omega
  have h := Nat.mul_le_mul hx hy
  rw [← Int.natAbs_mul] at h
  have e : ((a.toNat * b.toNat : Nat) : Int) = a * b := by rw [Int.natCast_mul, Int.toNat_of_nonneg (by omega), Int.toNat_of_nonneg (by omega)]
  omega
theorem tcD_f {b d : Int} (h : tcD b d = true) : -300 ≤ d ∧ d ≤ 300 ∧ ¬ d = 0 ∧ b.tmod d = 0 := by
  unfold tcD at h
  simp only [Bool.and_eq_true, inB_iff, bne_iff_ne, beq_iff_eq] at h
  exact ⟨h.1.1.1, h.1.1.2, h.1.2, h.2⟩
theorem isT_f {a b : Int} (h : isT a b = true) : -300 ≤ a ∧ a ≤ 300 ∧ -300 ≤ b ∧ b ≤ 300 ∧ ¬ b = 0 := by
  unfold isT at h
  simp only [Bool.and_eq_true, inB_iff, bne_iff_ne] at h
  exact ⟨h.1.1.1.1, h.1.1.1.2, h.1.1.2.1, h.1.1.2.2, h.1.2⟩
theorem tcD_no {b d : Int} (hb : ¬ b = 0) (h1 : -300 ≤ b) (h2 : b ≤ 300) (hd : ¬ d = 0) (h : b.tmod d = 0) : tcD b d = true := by
  have e := Int.mul_tdiv_add_tmod b d
  rw [h, Int.add_zero] at e
  have h3 : (d * b.tdiv d).natAbs = b.natAbs := by rw [e]
  rw [Int.natAbs_mul] at h3
  have h4 : 1 ≤ (b.tdiv d).natAbs := by
    rcases Nat.eq_zero_or_pos (b.tdiv d).natAbs with g | g
    · rw [g] at h3; omega
    · exact g
  have h5 := Nat.mul_le_mul_left d.natAbs h4
  unfold tcD
  simp only [Bool.and_eq_true, inB_iff, bne_iff_ne, beq_iff_eq]
  omega

set_option maxRecDepth 100000 in
set_option maxHeartbeats 8000000 in
theorem PointOfQuartic_any (a b d m n e : Int) (w : World) : Calls Try.prog 27 #[.agg #[.int .i64 a, .int .i64 b], .int .i64 d, .int .i64 m, .int .i64 n, .int .i64 e] w (Gives (poqR a b d m n e) w) := by
  have h0 : (poqG a b d m n e) = false → poqR a b d m n e = poqZ := fun h => by unfold poqR; rw [if_neg (by simp [h])]
  cases g0 : isT a b
  · have HR := Lib.hid (h0 (by simp [poqG, g0])); clear h0
    go_enter Try.func27, Try.ntmps27
    go_wp2_with (first | (go_at_call 66; refine (isTwoCurve_any _ _ _).mono ?_; rintro e w1 ⟨rfl, hb⟩; have hz := hb.size; (try simp only [World.size_alloc, World.size_setCell, World.size_drew, World.heap_drewN] at hz); try (refine keepc hb (w.heap.size) ?_ ?_; (focus (first | omega | (simp <;> omega))); intro hc0 hf0 hl0); try (refine keepc hb (w.heap.size + 1) ?_ ?_; (focus (first | omega | (simp <;> omega))); intro hc1 hf1 hl1); try (refine keepc hb (w.heap.size + 1 + 1) ?_ ?_; (focus (first | omega | (simp <;> omega))); intro hc2 hf2 hl2)) | (go_at_call 67; refine (inside_any _ _ _ _).mono ?_; rintro e w1 ⟨rfl, rfl⟩))
    refine bodyPost_ret (v := poqZ) (by simp [results, poqZ, Try.results27, go_sem, hc1, hc2]) rfl ?_; exact gives HR.out.symm (by repeat' (first | (with_reducible exact Below.refl _ _) | (with_reducible assumption) | (with_reducible refine Below.alloc ?_ ?_ _) | (with_reducible refine Below.setCell ?_ ?_ _) | (with_reducible refine Below.drew ?_) | (with_reducible refine below_drewN ?_ _) | (apply bthen2; (with_reducible assumption)) | go_size))
  cases g1 : inB m (-1000) 1000
  · have HR := Lib.hid (h0 (by simp [poqG, g1])); clear h0
    go_enter Try.func27, Try.ntmps27
    go_wp2_with (first | (go_at_call 66; refine (isTwoCurve_any _ _ _).mono ?_; rintro e w1 ⟨rfl, hb⟩; have hz := hb.size; (try simp only [World.size_alloc, World.size_setCell, World.size_drew, World.heap_drewN] at hz); try (refine keepc hb (w.heap.size) ?_ ?_; (focus (first | omega | (simp <;> omega))); intro hc0 hf0 hl0); try (refine keepc hb (w.heap.size + 1) ?_ ?_; (focus (first | omega | (simp <;> omega))); intro hc1 hf1 hl1); try (refine keepc hb (w.heap.size + 1 + 1) ?_ ?_; (focus (first | omega | (simp <;> omega))); intro hc2 hf2 hl2)) | (go_at_call 67; refine (inside_any _ _ _ _).mono ?_; rintro e w1 ⟨rfl, rfl⟩))
    refine bodyPost_ret (v := poqZ) (by simp [results, poqZ, Try.results27, go_sem, hc1, hc2]) rfl ?_; exact gives HR.out.symm (by repeat' (first | (with_reducible exact Below.refl _ _) | (with_reducible assumption) | (with_reducible refine Below.alloc ?_ ?_ _) | (with_reducible refine Below.setCell ?_ ?_ _) | (with_reducible refine Below.drew ?_) | (with_reducible refine below_drewN ?_ _) | (apply bthen2; (with_reducible assumption)) | go_size))
  have gm := g1
  by_cases g2 : m = 0
  case pos =>
    have HR := Lib.hid (h0 (by simp [poqG, g2])); clear h0
    subst g2
    go_enter Try.func27, Try.ntmps27
    go_wp2_with (first | (go_at_call 66; refine (isTwoCurve_any _ _ _).mono ?_; rintro e w1 ⟨rfl, hb⟩; have hz := hb.size; (try simp only [World.size_alloc, World.size_setCell, World.size_drew, World.heap_drewN] at hz); try (refine keepc hb (w.heap.size) ?_ ?_; (focus (first | omega | (simp <;> omega))); intro hc0 hf0 hl0); try (refine keepc hb (w.heap.size + 1) ?_ ?_; (focus (first | omega | (simp <;> omega))); intro hc1 hf1 hl1); try (refine keepc hb (w.heap.size + 1 + 1) ?_ ?_; (focus (first | omega | (simp <;> omega))); intro hc2 hf2 hl2)) | (go_at_call 67; refine (inside_any _ _ _ _).mono ?_; rintro e w1 ⟨rfl, rfl⟩))
    refine bodyPost_ret (v := poqZ) (by simp [results, poqZ, Try.results27, go_sem, hc1, hc2]) rfl ?_; exact gives HR.out.symm (by repeat' (first | (with_reducible exact Below.refl _ _) | (with_reducible assumption) | (with_reducible refine Below.alloc ?_ ?_ _) | (with_reducible refine Below.setCell ?_ ?_ _) | (with_reducible refine Below.drew ?_) | (with_reducible refine below_drewN ?_ _) | (apply bthen2; (with_reducible assumption)) | go_size))
  have m0 := g2
  have m0' : (m == 0) = false := by simpa using m0
  cases g3 : inB e (-1000) 1000
  · have HR := Lib.hid (h0 (by simp [poqG, g3])); clear h0
    go_enter Try.func27, Try.ntmps27
    go_wp2_with (first | (go_at_call 66; refine (isTwoCurve_any _ _ _).mono ?_; rintro e w1 ⟨rfl, hb⟩; have hz := hb.size; (try simp only [World.size_alloc, World.size_setCell, World.size_drew, World.heap_drewN] at hz); try (refine keepc hb (w.heap.size) ?_ ?_; (focus (first | omega | (simp <;> omega))); intro hc0 hf0 hl0); try (refine keepc hb (w.heap.size + 1) ?_ ?_; (focus (first | omega | (simp <;> omega))); intro hc1 hf1 hl1); try (refine keepc hb (w.heap.size + 1 + 1) ?_ ?_; (focus (first | omega | (simp <;> omega))); intro hc2 hf2 hl2)) | (go_at_call 67; refine (inside_any _ _ _ _).mono ?_; rintro e w1 ⟨rfl, rfl⟩))
    refine bodyPost_ret (v := poqZ) (by simp [results, poqZ, Try.results27, go_sem, hc1, hc2]) rfl ?_; exact gives HR.out.symm (by repeat' (first | (with_reducible exact Below.refl _ _) | (with_reducible assumption) | (with_reducible refine Below.alloc ?_ ?_ _) | (with_reducible refine Below.setCell ?_ ?_ _) | (with_reducible refine Below.drew ?_) | (with_reducible refine below_drewN ?_ _) | (apply bthen2; (with_reducible assumption)) | go_size))
  have ge := g3
  by_cases g4 : e = 0
  case pos =>
    have HR := Lib.hid (h0 (by simp [poqG, g4])); clear h0
    subst g4
    go_enter Try.func27, Try.ntmps27
    go_wp2_with (first | (go_at_call 66; refine (isTwoCurve_any _ _ _).mono ?_; rintro e w1 ⟨rfl, hb⟩; have hz := hb.size; (try simp only [World.size_alloc, World.size_setCell, World.size_drew, World.heap_drewN] at hz); try (refine keepc hb (w.heap.size) ?_ ?_; (focus (first | omega | (simp <;> omega))); intro hc0 hf0 hl0); try (refine keepc hb (w.heap.size + 1) ?_ ?_; (focus (first | omega | (simp <;> omega))); intro hc1 hf1 hl1); try (refine keepc hb (w.heap.size + 1 + 1) ?_ ?_; (focus (first | omega | (simp <;> omega))); intro hc2 hf2 hl2)) | (go_at_call 67; refine (inside_any _ _ _ _).mono ?_; rintro e w1 ⟨rfl, rfl⟩))
    refine bodyPost_ret (v := poqZ) (by simp [results, poqZ, Try.results27, go_sem, hc1, hc2]) rfl ?_; exact gives HR.out.symm (by repeat' (first | (with_reducible exact Below.refl _ _) | (with_reducible assumption) | (with_reducible refine Below.alloc ?_ ?_ _) | (with_reducible refine Below.setCell ?_ ?_ _) | (with_reducible refine Below.drew ?_) | (with_reducible refine below_drewN ?_ _) | (apply bthen2; (with_reducible assumption)) | go_size))
  have e0 := g4
  have e0' : (e == 0) = false := by simpa using e0
  cases g5 : inB n (-100000000) 100000000
  · have HR := Lib.hid (h0 (by simp [poqG, g5])); clear h0
    go_enter Try.func27, Try.ntmps27
    go_wp2_with (first | (go_at_call 66; refine (isTwoCurve_any _ _ _).mono ?_; rintro e w1 ⟨rfl, hb⟩; have hz := hb.size; (try simp only [World.size_alloc, World.size_setCell, World.size_drew, World.heap_drewN] at hz); try (refine keepc hb (w.heap.size) ?_ ?_; (focus (first | omega | (simp <;> omega))); intro hc0 hf0 hl0); try (refine keepc hb (w.heap.size + 1) ?_ ?_; (focus (first | omega | (simp <;> omega))); intro hc1 hf1 hl1); try (refine keepc hb (w.heap.size + 1 + 1) ?_ ?_; (focus (first | omega | (simp <;> omega))); intro hc2 hf2 hl2)) | (go_at_call 67; refine (inside_any _ _ _ _).mono ?_; rintro e w1 ⟨rfl, rfl⟩))
    refine bodyPost_ret (v := poqZ) (by simp [results, poqZ, Try.results27, go_sem, hc1, hc2]) rfl ?_; exact gives HR.out.symm (by repeat' (first | (with_reducible exact Below.refl _ _) | (with_reducible assumption) | (with_reducible refine Below.alloc ?_ ?_ _) | (with_reducible refine Below.setCell ?_ ?_ _) | (with_reducible refine Below.drew ?_) | (with_reducible refine below_drewN ?_ _) | (apply bthen2; (with_reducible assumption)) | go_size))
  have gn := g5
  by_cases g6 : d = 0
  case pos =>
    have HR := Lib.hid (h0 (by simp [poqG, tcD, g6])); clear h0
    subst g6
    go_enter Try.func27, Try.ntmps27
    go_wp2_with (first | (go_at_call 66; refine (isTwoCurve_any _ _ _).mono ?_; rintro e w1 ⟨rfl, hb⟩; have hz := hb.size; (try simp only [World.size_alloc, World.size_setCell, World.size_drew, World.heap_drewN] at hz); try (refine keepc hb (w.heap.size) ?_ ?_; (focus (first | omega | (simp <;> omega))); intro hc0 hf0 hl0); try (refine keepc hb (w.heap.size + 1) ?_ ?_; (focus (first | omega | (simp <;> omega))); intro hc1 hf1 hl1); try (refine keepc hb (w.heap.size + 1 + 1) ?_ ?_; (focus (first | omega | (simp <;> omega))); intro hc2 hf2 hl2)) | (go_at_call 67; refine (inside_any _ _ _ _).mono ?_; rintro e w1 ⟨rfl, rfl⟩))
    refine bodyPost_ret (v := poqZ) (by simp [results, poqZ, Try.results27, go_sem, hc1, hc2]) rfl ?_; exact gives HR.out.symm (by repeat' (first | (with_reducible exact Below.refl _ _) | (with_reducible assumption) | (with_reducible refine Below.alloc ?_ ?_ _) | (with_reducible refine Below.setCell ?_ ?_ _) | (with_reducible refine Below.drew ?_) | (with_reducible refine below_drewN ?_ _) | (apply bthen2; (with_reducible assumption)) | go_size))
  have d3' := g6
  have d0' : (d == 0) = false := by simpa using d3'
  by_cases g7 : b.tmod d = 0
  case neg =>
    have HR := Lib.hid (h0 (by simp [poqG, tcD, g7])); clear h0
    have n7 : (b.tmod d != 0) = true := by simpa using g7
    go_enter Try.func27, Try.ntmps27
    go_wp2_with (first | (go_at_call 66; refine (isTwoCurve_any _ _ _).mono ?_; rintro e w1 ⟨rfl, hb⟩; have hz := hb.size; (try simp only [World.size_alloc, World.size_setCell, World.size_drew, World.heap_drewN] at hz); try (refine keepc hb (w.heap.size) ?_ ?_; (focus (first | omega | (simp <;> omega))); intro hc0 hf0 hl0); try (refine keepc hb (w.heap.size + 1) ?_ ?_; (focus (first | omega | (simp <;> omega))); intro hc1 hf1 hl1); try (refine keepc hb (w.heap.size + 1 + 1) ?_ ?_; (focus (first | omega | (simp <;> omega))); intro hc2 hf2 hl2)) | (go_at_call 67; refine (inside_any _ _ _ _).mono ?_; rintro e w1 ⟨rfl, rfl⟩))
    refine bodyPost_ret (v := poqZ) (by simp [results, poqZ, Try.results27, go_sem, hc1, hc2]) rfl ?_; exact gives HR.out.symm (by repeat' (first | (with_reducible exact Below.refl _ _) | (with_reducible assumption) | (with_reducible refine Below.alloc ?_ ?_ _) | (with_reducible refine Below.setCell ?_ ?_ _) | (with_reducible refine Below.drew ?_) | (with_reducible refine below_drewN ?_ _) | (apply bthen2; (with_reducible assumption)) | go_size))
  have gD : tcD b d = true := by obtain ⟨t1, t2, t3, t4, t5⟩ := isT_f g0; exact tcD_no t5 t3 t4 d3' g7
  clear h0
  obtain ⟨t1, t2, t3, t4, t5⟩ := isT_f g0
  have i1 := inB_iff.1 gm
  have i2 := inB_iff.1 ge
  have i3 := inB_iff.1 gn
  obtain ⟨d1, d2, d3, d4⟩ := tcD_f gD
  have hG : poqG a b d m n e = true := by unfold poqG; simp only [g0, gm, ge, gn, gD]; simp [m0, e0]
  have hP : poqR a b d m n e = (if (qVal d a (b.tdiv d) m e == wrap64 (n*n)) && mkOk (d*m*m) (e*e) && mkOk (d*m*n) (e*e*e) then .tuple #[poqX d m e, poqY d m n e, .bool true] else poqZ) := by unfold poqR; rw [hG]; rfl
  have q1 := mul_bd (a := 300) (b := 1000) (by omega) (by omega) i1.1 i1.2
  have q2 := mul_bd (x := d*m) (a := 300000) (b := 1000) (by omega) (by omega) i1.1 i1.2
  have q3 := mul_bd (x := d*m) (a := 300000) (b := 100000000) (by omega) (by omega) i3.1 i3.2
  have q4 := mul_bd (a := 1000) (b := 1000) i2.1 i2.2 i2.1 i2.2
  have q5 := mul_bd (x := e*e) (a := 1000000) (b := 1000) (by omega) (by omega) i2.1 i2.2
  have ee : ¬ e * e = 0 := by intro h; rcases Int.mul_eq_zero.1 h with h | h <;> exact e0 h
  have eee : ¬ e * e * e = 0 := by intro h; rcases Int.mul_eq_zero.1 h with h | h; exact ee h; exact e0 h
  have HX := Lib.hid (fun w => makeFraction_any (d*m*m) (e*e) ee (by omega) (by omega) (by omega) (by omega) w)
  have HY := Lib.hid (fun w => makeFraction_any (d*m*n) (e*e*e) eee (by omega) (by omega) (by omega) (by omega) w)
  have b1 := tdiv_bd b d
  have c1 : -9223372036854775808 ≤ b.tdiv d := by omega
  have c2 : b.tdiv d ≤ 9223372036854775807 := by omega
  have m0' : (m == 0) = false := by simpa using m0
  have e0' : (e == 0) = false := by simpa using e0
  have d0' : (d == 0) = false := by simpa using d3
  have d4' : (b.tmod d == 0) = true := by simpa using d4
  have d4'' : (b.tmod d != 0) = false := by simpa using d4
  obtain ⟨q1a, q1b⟩ := q1
  obtain ⟨q2a, q2b⟩ := q2
  obtain ⟨q3a, q3b⟩ := q3
  obtain ⟨q4a, q4b⟩ := q4
  obtain ⟨q5a, q5b⟩ := q5
  obtain ⟨i1a, i1b⟩ := i1
  obtain ⟨i2a, i2b⟩ := i2
  obtain ⟨i3a, i3b⟩ := i3
  clear hG ee eee b1 d4 m0 e0
  cases gv : (qVal d a (b.tdiv d) m e == wrap64 (n*n))
  case false =>
    have gv' : (qVal d a (b.tdiv d) m e != wrap64 (n*n)) = true := by rw [bne, gv]; rfl
    have gv'' : (wrap64 (n*n) != qVal d a (b.tdiv d) m e) = true := by rw [bne_comm]; exact gv'
    have HP := Lib.hid (show poqR a b d m n e = poqZ by rw [hP, gv]; rfl); clear hP
    go_enter Try.func27, Try.ntmps27
    go_wp2_with (first | (go_at_call 66; refine (isTwoCurve_any _ _ _).mono ?_; rintro e wa ⟨rfl, hba⟩; have hza := hba.size; (try simp only [World.size_alloc, World.size_setCell, World.size_drew, World.heap_drewN] at hza); try (refine keepc hba (w.heap.size) ?_ ?_; (focus (first | omega | (simp <;> omega))); intro hca_0 hfa_0 hla_0); try (refine keepc hba (w.heap.size + 1) ?_ ?_; (focus (first | omega | (simp <;> omega))); intro hca_1 hfa_1 hla_1); try (refine keepc hba (w.heap.size + 1 + 1) ?_ ?_; (focus (first | omega | (simp <;> omega))); intro hca_2 hfa_2 hla_2)) | (go_at_call 67; refine (inside_any _ _ _ _).mono ?_; rintro e w1 ⟨rfl, rfl⟩))
    go_region
    go_wp2_with (first | (go_at_call 68; refine (value_any _ _ _ _ _ _).mono ?_; rintro e wv ⟨rfl, hbv⟩; have hzv := hbv.size; (try simp only [World.size_alloc, World.size_setCell, World.size_drew, World.heap_drewN] at hzv); try (refine keepc hbv (w.heap.size) ?_ ?_; (focus (first | omega | (simp <;> omega))); intro hcv_0 hfv_0 hlv_0); try (refine keepc hbv (w.heap.size + 1) ?_ ?_; (focus (first | omega | (simp <;> omega))); intro hcv_1 hfv_1 hlv_1); try (refine keepc hbv (w.heap.size + 1 + 1) ?_ ?_; (focus (first | omega | (simp <;> omega))); intro hcv_2 hfv_2 hlv_2)))
    refine bodyPost_ret (v := poqZ) (by simp [results, poqZ, Try.results27, go_sem, hca_1, hca_2, hla_1, hla_2, hcv_1, hcv_2]) rfl (gives HP.out.symm (by repeat' (first | (with_reducible exact Below.refl _ _) | (with_reducible assumption) | (with_reducible refine Below.alloc ?_ ?_ _) | (with_reducible refine Below.setCell ?_ ?_ _) | (with_reducible refine Below.drew ?_) | (with_reducible refine below_drewN ?_ _) | (apply bthen2; (with_reducible assumption)) | go_size)))
  case true =>
    have gv' : (qVal d a (b.tdiv d) m e != wrap64 (n*n)) = false := by rw [bne, gv]; rfl
    have gv'' : (wrap64 (n*n) != qVal d a (b.tdiv d) m e) = false := by rw [bne_comm]; exact gv'
    rw [gv] at hP
    have hx : mkF (d*m*m) (e*e) = (if mkOk (d*m*m) (e*e) then .tuple #[poqX d m e, .bool true] else .tuple #[.agg #[.int .i64 0, .int .i64 0], .bool false]) := rfl
    have hy : mkF (d*m*n) (e*e*e) = (if mkOk (d*m*n) (e*e*e) then .tuple #[poqY d m n e, .bool true] else .tuple #[.agg #[.int .i64 0, .int .i64 0], .bool false]) := rfl
    have HX2 := HX.out
    have HY2 := HY.out
    clear HX HY
    cases k1 : mkOk (d*m*m) (e*e) <;> cases k2 : mkOk (d*m*n) (e*e*e)
    all_goals
      rw [k1] at hx hP
      rw [k2] at hy hP
      simp only [Bool.false_eq_true, if_false, if_true, Bool.and_true, Bool.and_false, Bool.true_and, Bool.false_and, poqX, poqY] at hx hy hP
      simp only [hx] at HX2
      simp only [hy] at HY2
      have H1 := Lib.hid HX2
      have H2 := Lib.hid HY2
      have HP := Lib.hid hP
      clear hx hy hP HX2 HY2 k1 k2
      go_enter Try.func27, Try.ntmps27
      go_wp2_with (first | (go_at_call 66; refine (isTwoCurve_any _ _ _).mono ?_; rintro e wa ⟨rfl, hba⟩; have hza := hba.size; (try simp only [World.size_alloc, World.size_setCell, World.size_drew, World.heap_drewN] at hza); try (refine keepc hba (w.heap.size) ?_ ?_; (focus (first | omega | (simp <;> omega))); intro hca_0 hfa_0 hla_0); try (refine keepc hba (w.heap.size + 1) ?_ ?_; (focus (first | omega | (simp <;> omega))); intro hca_1 hfa_1 hla_1); try (refine keepc hba (w.heap.size + 1 + 1) ?_ ?_; (focus (first | omega | (simp <;> omega))); intro hca_2 hfa_2 hla_2)) | (go_at_call 67; refine (inside_any _ _ _ _).mono ?_; rintro e w1 ⟨rfl, rfl⟩))
      go_region
      go_wp2_with (first | (go_at_call 68; refine (value_any _ _ _ _ _ _).mono ?_; rintro e wv ⟨rfl, hbv⟩; have hzv := hbv.size; (try simp only [World.size_alloc, World.size_setCell, World.size_drew, World.heap_drewN] at hzv); try (refine keepc hbv (w.heap.size) ?_ ?_; (focus (first | omega | (simp <;> omega))); intro hcv_0 hfv_0 hlv_0); try (refine keepc hbv (w.heap.size + 1) ?_ ?_; (focus (first | omega | (simp <;> omega))); intro hcv_1 hfv_1 hlv_1); try (refine keepc hbv (w.heap.size + 1 + 1) ?_ ?_; (focus (first | omega | (simp <;> omega))); intro hcv_2 hfv_2 hlv_2)) | (go_at_call_of 69 (Value.int .i64 (e*e)); refine (H1.out _).mono ?_; rintro e wx ⟨rfl, hbx⟩; have hzx := hbx.size; (try simp only [World.size_alloc, World.size_setCell, World.size_drew, World.heap_drewN] at hzx); try (refine keepc hbx (w.heap.size) ?_ ?_; (focus (first | omega | (simp <;> omega))); intro hcx_0 hfx_0 hlx_0); try (refine keepc hbx (w.heap.size + 1) ?_ ?_; (focus (first | omega | (simp <;> omega))); intro hcx_1 hfx_1 hlx_1); try (refine keepc hbx (w.heap.size + 1 + 1) ?_ ?_; (focus (first | omega | (simp <;> omega))); intro hcx_2 hfx_2 hlx_2)) | (go_at_call_of 69 (Value.int .i64 (e*e*e)); refine (H2.out _).mono ?_; rintro e wy ⟨rfl, hby⟩; have hzy := hby.size; (try simp only [World.size_alloc, World.size_setCell, World.size_drew, World.heap_drewN] at hzy); try (refine keepc hby (w.heap.size) ?_ ?_; (focus (first | omega | (simp <;> omega))); intro hcy_0 hfy_0 hly_0); try (refine keepc hby (w.heap.size + 1) ?_ ?_; (focus (first | omega | (simp <;> omega))); intro hcy_1 hfy_1 hly_1); try (refine keepc hby (w.heap.size + 1 + 1) ?_ ?_; (focus (first | omega | (simp <;> omega))); intro hcy_2 hfy_2 hly_2); try (refine keepc hby (wx.heap.size) ?_ ?_; (focus (first | omega | (simp <;> omega))); intro hcy_x0 hfy_x0 hly_x0)))
      first
        | exact bodyPost_ret (v := poqZ) (by simp [results, poqZ, Try.results27, go_sem, hca_1, hca_2, hla_1, hla_2, hcv_1, hcv_2, hlv_1, hlv_2, hcx_1, hcx_2, hlx_1, hlx_2, hcy_1, hcy_2, hly_1, hly_2]) rfl (gives HP.out.symm (by repeat' (first | (with_reducible exact Below.refl _ _) | (with_reducible assumption) | (with_reducible refine Below.alloc ?_ ?_ _) | (with_reducible refine Below.setCell ?_ ?_ _) | (with_reducible refine Below.drew ?_) | (with_reducible refine below_drewN ?_ _) | (apply bthen2; (with_reducible assumption)) | go_size)))
        | (go_region; go_wp2; exact bodyPost_ret (v := .tuple #[poqX d m e, poqY d m n e, .bool true]) (by simp [results, poqX, poqY, Try.results27, go_sem, hca_1, hca_2, hla_1, hla_2, hcv_1, hcv_2, hlv_1, hlv_2, hcx_1, hcx_2, hlx_1, hlx_2, hcy_1, hcy_2, hly_1, hly_2]) rfl (gives HP.out.symm (by repeat' (first | (with_reducible exact Below.refl _ _) | (with_reducible assumption) | (with_reducible refine Below.alloc ?_ ?_ _) | (with_reducible refine Below.setCell ?_ ?_ _) | (with_reducible refine Below.drew ?_) | (with_reducible refine below_drewN ?_ _) | (apply bthen2; (with_reducible assumption)) | go_size))))
        | (go_show; sorry)


end Go.Proofs.Ytaboopioocpkdaa
