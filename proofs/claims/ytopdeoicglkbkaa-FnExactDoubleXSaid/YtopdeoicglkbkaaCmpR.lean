import Derived.Test.YtopdeoicglkbkaaCmpZ
import Derived.Test.YtopdeoicglkbkaaCmp
import Derived.Test.YtopdeoicglkbkaaBits
import Derived.Test.YtopdeoicglkbkaaRatio
import Derived.Test.YtopdeoicglkbkaaBox
set_option linter.unusedSimpArgs false
set_option linter.unusedVariables false
namespace Go.Proofs.Ytopdeoicglkbkaa
open Go.RowKit
/-! ### ratios are compared -/

def zv (n : Bool) (xs : List Int) : Int := if n then -val xs else val xs
theorem zv_z (z : Int) : zv (decide (z < 0)) (dg z.natAbs) = z := by
  unfold zv
  rw [val_dg]
  by_cases h : z < 0
  · simp only [h, decide_true, if_true]; omega
  · simp only [h, decide_false, Bool.false_eq_true, if_false]; omega
theorem whB_z {n : Bool} {xs : List Int} (h : whB n xs = true) : ∃ z : Int, n = decide (z < 0) ∧ xs = dg z.natAbs ∧ (dg z.natAbs).length ≤ 400 := by
  obtain ⟨hc, hl, hs⟩ := whB_can h
  have hd := dg_val hc
  have h0 := val_nonneg hc.1
  refine ⟨zv n xs, ?_, ?_, ?_⟩
  · cases n
    · simp [zv]; omega
    · have hne : xs ≠ [] := by intro e; subst e; simp at hs
      have h1 := val_ge hc hne
      have := p10 (xs.length - 1)
      simp [zv]; omega
  · rw [show (zv n xs).natAbs = (val xs).toNat by cases n <;> simp [zv] <;> omega, hd]
  · rw [show (zv n xs).natAbs = (val xs).toNat by cases n <;> simp [zv] <;> omega, hd]; exact hl
theorem ratB_z {n1 n2 : Bool} {xs ys : List Int} (h : ratB n1 xs n2 ys = true) : ∃ x z : Int, n1 = decide (x < 0) ∧ xs = dg x.natAbs ∧ n2 = decide (z < 0) ∧ ys = dg z.natAbs ∧ (dg x.natAbs).length ≤ 80 ∧ (dg z.natAbs).length ≤ 80 ∧ 0 < z := by
  have h0 := h
  unfold ratB at h
  simp only [Bool.and_eq_true, decide_eq_true_eq] at h
  obtain ⟨⟨⟨⟨h1, h2⟩, h3⟩, h4⟩, h5⟩ := h
  obtain ⟨x, e1, e2, -⟩ := whB_z h1
  obtain ⟨z, e3, e4, -⟩ := whB_z h2
  subst e1 e2 e3 e4
  refine ⟨x, z, rfl, rfl, rfl, rfl, h3, ?_, ?_⟩
  · have := (inB_iff.1 h4).2; omega
  · have h6 := (inB_iff.1 h4).1
    have h7 : ¬ z < 0 := by simpa using h5
    have h8 : z.natAbs ≠ 0 := fun e => by rw [e] at h6; simp [dg_zero] at h6
    omega

set_option maxHeartbeats 1000000 in
theorem compareRatios_any (x1 x2 x3 x4 : Int) (a1 a2 a3 a4 : Option Addr) (l1 c1 l2 c2 l3 c3 l4 c4 : Nat) (w : World) (hx : Ints w (.slice a1 l1 c1) (dg x1.natAbs)) (hy : Ints w (.slice a2 l2 c2) (dg x2.natAbs)) (hv : Ints w (.slice a3 l3 c3) (dg x3.natAbs)) (hw : Ints w (.slice a4 l4 c4) (dg x4.natAbs)) (k1 : (dg x1.natAbs).length ≤ 1000) (k2 : (dg x2.natAbs).length ≤ 1000) (k3 : (dg x3.natAbs).length ≤ 1000) (k4 : (dg x4.natAbs).length ≤ 1000) :
    Calls Try.prog 66 #[.agg #[.bool (decide (x1 < 0)), .slice a1 l1 c1, .bool (decide (x2 < 0)), .slice a2 l2 c2], .agg #[.bool (decide (x3 < 0)), .slice a3 l3 c3, .bool (decide (x4 < 0)), .slice a4 l4 c4]] w (Gives (.int .i64 (cmpI (x1 * x4) (x3 * x2))) w) := by
  have l14 := dg_len_mul x1 x4
  have l32 := dg_len_mul x3 x2
  have M1 := Lib.hid (fun W h h2 => mulWholes_any x1 x4 a1 a4 l1 c1 l4 c4 W h h2 (by omega) (by omega))
  have M2 := Lib.hid (fun W h h2 => mulWholes_any x3 x2 a3 a2 l3 c3 l2 c2 W h h2 (by omega) (by omega))
  have MC := Lib.hid (fun a b l c m d W h h2 => compareWholes_any (x1 * x4) (x3 * x2) a b l c m d W h h2 (by omega) (by omega))
  unfold GivesZ at M1 M2
  generalize cmpI (x1 * x4) (x3 * x2) = C at *
  generalize dg (x1 * x4).natAbs = P1 at *
  generalize decide (x1 * x4 < 0) = s1 at *
  generalize dg (x3 * x2).natAbs = P2 at *
  generalize decide (x3 * x2 < 0) = s2 at *
  generalize dg x1.natAbs = D1 at *
  generalize dg x2.natAbs = D2 at *
  generalize dg x3.natAbs = D3 at *
  generalize dg x4.natAbs = D4 at *
  generalize decide (x1 < 0) = n1 at *
  generalize decide (x2 < 0) = n2 at *
  generalize decide (x3 < 0) = n3 at *
  generalize decide (x4 < 0) = n4 at *
  clear l14 l32 k1 k2 k3 k4
  go_enter Try.func66, Try.ntmps66
  go_upto_region 1 with fail
  refine name_world (fun W1 hW1 => ?_)
  have z0 : W1.cell? ⟨w.heap.size, 0, none⟩ = some (.bool n1) := by subst hW1; simp [go_sem]
  have z1 : W1.cell? ⟨w.heap.size, 1, none⟩ = some (.slice a1 l1 c1) := by subst hW1; simp [go_sem]
  have z2 : W1.cell? ⟨w.heap.size, 2, none⟩ = some (.bool n2) := by subst hW1; simp [go_sem]
  have z3 : W1.cell? ⟨w.heap.size, 3, none⟩ = some (.slice a2 l2 c2) := by subst hW1; simp [go_sem]
  have y0 : W1.cell? ⟨w.heap.size + 1, 0, none⟩ = some (.bool n3) := by subst hW1; simp [go_sem]
  have y1 : W1.cell? ⟨w.heap.size + 1, 1, none⟩ = some (.slice a3 l3 c3) := by subst hW1; simp [go_sem]
  have y2 : W1.cell? ⟨w.heap.size + 1, 2, none⟩ = some (.bool n4) := by subst hW1; simp [go_sem]
  have y3 : W1.cell? ⟨w.heap.size + 1, 3, none⟩ = some (.slice a4 l4 c4) := by subst hW1; simp [go_sem]
  have hB : Below w.heap.size w W1 := by subst hW1; exact (by repeat' (first | (with_reducible exact Below.refl _ _) | (with_reducible assumption) | (with_reducible refine Below.alloc ?_ ?_ _) | (with_reducible refine Below.setCell ?_ ?_ _) | (with_reducible refine Below.drew ?_) | (with_reducible refine below_drewN ?_ _) | (apply bthen2; (with_reducible assumption)) | go_size))
  have hs0 : w.heap.size + 1 < W1.heap.size := by subst hW1; simp
  have gx := Ints.below hx hB
  have gy := Ints.below hy hB
  have gv := Ints.below hv hB
  have gw := Ints.below hw hB
  clear hW1 hx hy hv hw
  go_region_held3 (fun w' => Below W1.heap.size W1 w' ∧ w'.cell? ⟨w.heap.size, 0, none⟩ = some (.bool n1) ∧ w'.cell? ⟨w.heap.size, 1, none⟩ = some (.slice a1 l1 c1) ∧ w'.cell? ⟨w.heap.size, 2, none⟩ = some (.bool n2) ∧ w'.cell? ⟨w.heap.size, 3, none⟩ = some (.slice a2 l2 c2) ∧ w'.cell? ⟨w.heap.size + 1, 0, none⟩ = some (.bool n3) ∧ w'.cell? ⟨w.heap.size + 1, 1, none⟩ = some (.slice a3 l3 c3) ∧ w'.cell? ⟨w.heap.size + 1, 2, none⟩ = some (.bool n4) ∧ w'.cell? ⟨w.heap.size + 1, 3, none⟩ = some (.slice a4 l4 c4)) ((refine (fun hbK => And.intro hbK (by exact ⟨(hbK.cell (p := ⟨w.heap.size, 0, none⟩) (by first | assumption | omega | (simp; omega))).trans z0, (hbK.cell (p := ⟨w.heap.size, 1, none⟩) (by first | assumption | omega | (simp; omega))).trans z1, (hbK.cell (p := ⟨w.heap.size, 2, none⟩) (by first | assumption | omega | (simp; omega))).trans z2, (hbK.cell (p := ⟨w.heap.size, 3, none⟩) (by first | assumption | omega | (simp; omega))).trans z3, (hbK.cell (p := ⟨w.heap.size + 1, 0, none⟩) (by first | assumption | omega | (simp; omega))).trans y0, (hbK.cell (p := ⟨w.heap.size + 1, 1, none⟩) (by first | assumption | omega | (simp; omega))).trans y1, (hbK.cell (p := ⟨w.heap.size + 1, 2, none⟩) (by first | assumption | omega | (simp; omega))).trans y2, (hbK.cell (p := ⟨w.heap.size + 1, 3, none⟩) (by first | assumption | omega | (simp; omega))).trans y3⟩)) ?_; repeat' (first | (with_reducible exact Below.refl _ _) | (with_reducible assumption) | (with_reducible refine Below.alloc ?_ ?_ _) | (with_reducible refine Below.setCell ?_ ?_ _) | (with_reducible refine Below.drew ?_) | (with_reducible refine below_drewN ?_ _) | (apply bthen2; (with_reducible assumption)) | go_size))) ((first | (go_at_call_of 97 (Value.slice a1 l1 c1); refine (M1.out _ ?_ ?_).mono ?_; (focus (refine Ints.below gx ?_; repeat' (first | (with_reducible exact Below.refl _ _) | (with_reducible assumption) | (with_reducible refine Below.alloc ?_ ?_ _) | (with_reducible refine Below.setCell ?_ ?_ _) | (with_reducible refine Below.drew ?_) | (with_reducible refine below_drewN ?_ _) | (apply bthen2; (with_reducible assumption)) | go_size))); (focus (refine Ints.below gw ?_; repeat' (first | (with_reducible exact Below.refl _ _) | (with_reducible assumption) | (with_reducible refine Below.alloc ?_ ?_ _) | (with_reducible refine Below.setCell ?_ ?_ _) | (with_reducible refine Below.drew ?_) | (with_reducible refine below_drewN ?_ _) | (apply bthen2; (with_reducible assumption)) | go_size))); rintro e wf ⟨fa, fl, fc, rfl, hof, hbf⟩) | (go_at_call_of 97 (Value.slice a3 l3 c3); refine (M2.out _ ?_ ?_).mono ?_; (focus (refine Ints.below gv ?_; repeat' (first | (with_reducible exact Below.refl _ _) | (with_reducible assumption) | (with_reducible refine Below.alloc ?_ ?_ _) | (with_reducible refine Below.setCell ?_ ?_ _) | (with_reducible refine Below.drew ?_) | (with_reducible refine below_drewN ?_ _) | (apply bthen2; (with_reducible assumption)) | go_size))); (focus (refine Ints.below gy ?_; repeat' (first | (with_reducible exact Below.refl _ _) | (with_reducible assumption) | (with_reducible refine Below.alloc ?_ ?_ _) | (with_reducible refine Below.setCell ?_ ?_ _) | (with_reducible refine Below.drew ?_) | (with_reducible refine below_drewN ?_ _) | (apply bthen2; (with_reducible assumption)) | go_size))); rintro e wg ⟨ga, gl, gc, rfl, hog, hbg⟩) | (go_at_call 96; refine (MC.out _ _ _ _ _ _ _ ?_ ?_).mono ?_; (focus (refine Ints.below hof.ints ?_; repeat' (first | (with_reducible exact Below.refl _ _) | (with_reducible assumption) | (with_reducible refine Below.alloc ?_ ?_ _) | (with_reducible refine Below.setCell ?_ ?_ _) | (with_reducible refine Below.drew ?_) | (with_reducible refine below_drewN ?_ _) | (apply bthen2; (with_reducible assumption)) | go_size))); (focus (refine Ints.below hog.ints ?_; repeat' (first | (with_reducible exact Below.refl _ _) | (with_reducible assumption) | (with_reducible refine Below.alloc ?_ ?_ _) | (with_reducible refine Below.setCell ?_ ?_ _) | (with_reducible refine Below.drew ?_) | (with_reducible refine below_drewN ?_ _) | (apply bthen2; (with_reducible assumption)) | go_size))); rintro e wh ⟨rfl, hbh⟩)))
  all_goals (go_wp2; go_ret; exact gives rfl (by repeat' (first | (with_reducible exact Below.refl _ _) | (with_reducible assumption) | (with_reducible refine Below.alloc ?_ ?_ _) | (with_reducible refine Below.setCell ?_ ?_ _) | (with_reducible refine Below.drew ?_) | (with_reducible refine below_drewN ?_ _) | (apply bthen2; (with_reducible assumption)) | go_size)))
def crV (n1 : Bool) (xs : List Int) (n2 : Bool) (ys : List Int) (n3 : Bool) (us : List Int) (n4 : Bool) (vs : List Int) : Int × Bool := if (ratB n1 xs n2 ys && ratB n3 us n4 vs) = true then (cmpI (zv n1 xs * zv n4 vs) (zv n3 us * zv n2 ys), true) else (0, false)
set_option maxHeartbeats 1000000 in
theorem CompareRatios_any (n1 n2 n3 n4 : Bool) (a1 a2 a3 a4 : Option Addr) (l1 c1 l2 c2 l3 c3 l4 c4 : Nat) (xs ys us vs : List Int) (w : World) (hx : Ints w (.slice a1 l1 c1) xs) (hy : Ints w (.slice a2 l2 c2) ys) (hv : Ints w (.slice a3 l3 c3) us) (hw : Ints w (.slice a4 l4 c4) vs) :
    Calls Try.prog 33 #[.agg #[.bool n1, .slice a1 l1 c1, .bool n2, .slice a2 l2 c2], .agg #[.bool n3, .slice a3 l3 c3, .bool n4, .slice a4 l4 c4]] w (Gives (.tuple #[.int .i64 (crV n1 xs n2 ys n3 us n4 vs).1, .bool (crV n1 xs n2 ys n3 us n4 vs).2]) w) := by
  have H1 := Lib.hid (fun W h h' => isRatio_any n1 n2 a1 a2 l1 c1 l2 c2 xs ys W h h')
  have H2 := Lib.hid (fun W h h' => isRatio_any n3 n4 a3 a4 l3 c3 l4 c4 us vs W h h')
  have HX := Lib.hid hx; have HY := Lib.hid hy; have HV := Lib.hid hv; have HW := Lib.hid hw
  unfold crV
  cases g1 : ratB n1 xs n2 ys
  · rw [g1] at H1
    simp only [Bool.false_and, Bool.false_eq_true, if_false]
    clear H2 hx hy hv hw
    go_enter Try.func33, Try.ntmps33
    go_wp2_with fail
    refine (H1.out _ ?_ ?_).mono ?_
    · refine Ints.below HX.out ?_; repeat' (first | (with_reducible exact Below.refl _ _) | (with_reducible assumption) | (with_reducible refine Below.alloc ?_ ?_ _) | (with_reducible refine Below.setCell ?_ ?_ _) | (with_reducible refine Below.drew ?_) | (with_reducible refine below_drewN ?_ _) | (apply bthen2; (with_reducible assumption)) | go_size)
    · refine Ints.below HY.out ?_; repeat' (first | (with_reducible exact Below.refl _ _) | (with_reducible assumption) | (with_reducible refine Below.alloc ?_ ?_ _) | (with_reducible refine Below.setCell ?_ ?_ _) | (with_reducible refine Below.drew ?_) | (with_reducible refine below_drewN ?_ _) | (apply bthen2; (with_reducible assumption)) | go_size)
    rintro e wa ⟨rfl, hba⟩; have hza := hba.size; (try simp only [World.size_alloc, World.size_setCell, World.size_drew, World.heap_drewN] at hza); try (refine keepc hba (w.heap.size) ?_ ?_; (focus (first | omega | (simp <;> omega))); intro hca_0 hfa_0 hla_0); try (refine keepc hba (w.heap.size + 1) ?_ ?_; (focus (first | omega | (simp <;> omega))); intro hca_1 hfa_1 hla_1); try (refine keepc hba (w.heap.size + 1 + 1) ?_ ?_; (focus (first | omega | (simp <;> omega))); intro hca_2 hfa_2 hla_2)
    go_wp2
    go_ret2
    exact gives rfl (by repeat' (first | (with_reducible exact Below.refl _ _) | (with_reducible assumption) | (with_reducible refine Below.alloc ?_ ?_ _) | (with_reducible refine Below.setCell ?_ ?_ _) | (with_reducible refine Below.drew ?_) | (with_reducible refine below_drewN ?_ _) | (apply bthen2; (with_reducible assumption)) | go_size))
  cases g2 : ratB n3 us n4 vs
  · rw [g1] at H1; rw [g2] at H2
    simp only [Bool.and_false, Bool.false_eq_true, if_false]
    clear hx hy hv hw
    go_enter Try.func33, Try.ntmps33
    go_wp2_with fail
    refine (H1.out _ ?_ ?_).mono ?_
    · refine Ints.below HX.out ?_; repeat' (first | (with_reducible exact Below.refl _ _) | (with_reducible assumption) | (with_reducible refine Below.alloc ?_ ?_ _) | (with_reducible refine Below.setCell ?_ ?_ _) | (with_reducible refine Below.drew ?_) | (with_reducible refine below_drewN ?_ _) | (apply bthen2; (with_reducible assumption)) | go_size)
    · refine Ints.below HY.out ?_; repeat' (first | (with_reducible exact Below.refl _ _) | (with_reducible assumption) | (with_reducible refine Below.alloc ?_ ?_ _) | (with_reducible refine Below.setCell ?_ ?_ _) | (with_reducible refine Below.drew ?_) | (with_reducible refine below_drewN ?_ _) | (apply bthen2; (with_reducible assumption)) | go_size)
    rintro e wa ⟨rfl, hba⟩; have hza := hba.size; (try simp only [World.size_alloc, World.size_setCell, World.size_drew, World.heap_drewN] at hza); try (refine keepc hba (w.heap.size) ?_ ?_; (focus (first | omega | (simp <;> omega))); intro hca_0 hfa_0 hla_0); try (refine keepc hba (w.heap.size + 1) ?_ ?_; (focus (first | omega | (simp <;> omega))); intro hca_1 hfa_1 hla_1); try (refine keepc hba (w.heap.size + 1 + 1) ?_ ?_; (focus (first | omega | (simp <;> omega))); intro hca_2 hfa_2 hla_2)
    go_wp2_with fail
    refine (H2.out _ ?_ ?_).mono ?_
    · refine Ints.below HV.out ?_; repeat' (first | (with_reducible exact Below.refl _ _) | (with_reducible assumption) | (with_reducible refine Below.alloc ?_ ?_ _) | (with_reducible refine Below.setCell ?_ ?_ _) | (with_reducible refine Below.drew ?_) | (with_reducible refine below_drewN ?_ _) | (apply bthen2; (with_reducible assumption)) | go_size)
    · refine Ints.below HW.out ?_; repeat' (first | (with_reducible exact Below.refl _ _) | (with_reducible assumption) | (with_reducible refine Below.alloc ?_ ?_ _) | (with_reducible refine Below.setCell ?_ ?_ _) | (with_reducible refine Below.drew ?_) | (with_reducible refine below_drewN ?_ _) | (apply bthen2; (with_reducible assumption)) | go_size)
    rintro e wb ⟨rfl, hbb⟩; have hzb := hbb.size; (try simp only [World.size_alloc, World.size_setCell, World.size_drew, World.heap_drewN] at hzb); try (refine keepc hbb (w.heap.size) ?_ ?_; (focus (first | omega | (simp <;> omega))); intro hcb_0 hfb_0 hlb_0); try (refine keepc hbb (w.heap.size + 1) ?_ ?_; (focus (first | omega | (simp <;> omega))); intro hcb_1 hfb_1 hlb_1); try (refine keepc hbb (w.heap.size + 1 + 1) ?_ ?_; (focus (first | omega | (simp <;> omega))); intro hcb_2 hfb_2 hlb_2)
    go_wp2
    go_ret2
    exact gives rfl (by repeat' (first | (with_reducible exact Below.refl _ _) | (with_reducible assumption) | (with_reducible refine Below.alloc ?_ ?_ _) | (with_reducible refine Below.setCell ?_ ?_ _) | (with_reducible refine Below.drew ?_) | (with_reducible refine below_drewN ?_ _) | (apply bthen2; (with_reducible assumption)) | go_size))
  rw [g1] at H1; rw [g2] at H2
  simp only [Bool.and_self, if_true]
  obtain ⟨x1, x2, rfl, rfl, rfl, rfl, k1, k2, -⟩ := ratB_z g1
  obtain ⟨x3, x4, rfl, rfl, rfl, rfl, k3, k4, -⟩ := ratB_z g2
  rw [zv_z, zv_z, zv_z, zv_z]
  clear g1 g2
  have HC := Lib.hid (fun W h1 h2 h3 h4 => compareRatios_any x1 x2 x3 x4 a1 a2 a3 a4 l1 c1 l2 c2 l3 c3 l4 c4 W h1 h2 h3 h4 (by omega) (by omega) (by omega) (by omega))
  generalize cmpI (x1 * x4) (x3 * x2) = C at *
  clear hx hy hv hw k1 k2 k3 k4
  go_enter Try.func33, Try.ntmps33
  go_wp2_with fail
  refine (H1.out _ ?_ ?_).mono ?_
  · refine Ints.below HX.out ?_; repeat' (first | (with_reducible exact Below.refl _ _) | (with_reducible assumption) | (with_reducible refine Below.alloc ?_ ?_ _) | (with_reducible refine Below.setCell ?_ ?_ _) | (with_reducible refine Below.drew ?_) | (with_reducible refine below_drewN ?_ _) | (apply bthen2; (with_reducible assumption)) | go_size)
  · refine Ints.below HY.out ?_; repeat' (first | (with_reducible exact Below.refl _ _) | (with_reducible assumption) | (with_reducible refine Below.alloc ?_ ?_ _) | (with_reducible refine Below.setCell ?_ ?_ _) | (with_reducible refine Below.drew ?_) | (with_reducible refine below_drewN ?_ _) | (apply bthen2; (with_reducible assumption)) | go_size)
  rintro e wa ⟨rfl, hba⟩; have hza := hba.size; (try simp only [World.size_alloc, World.size_setCell, World.size_drew, World.heap_drewN] at hza); try (refine keepc hba (w.heap.size) ?_ ?_; (focus (first | omega | (simp <;> omega))); intro hca_0 hfa_0 hla_0); try (refine keepc hba (w.heap.size + 1) ?_ ?_; (focus (first | omega | (simp <;> omega))); intro hca_1 hfa_1 hla_1); try (refine keepc hba (w.heap.size + 1 + 1) ?_ ?_; (focus (first | omega | (simp <;> omega))); intro hca_2 hfa_2 hla_2)
  go_wp2_with fail
  refine (H2.out _ ?_ ?_).mono ?_
  · refine Ints.below HV.out ?_; repeat' (first | (with_reducible exact Below.refl _ _) | (with_reducible assumption) | (with_reducible refine Below.alloc ?_ ?_ _) | (with_reducible refine Below.setCell ?_ ?_ _) | (with_reducible refine Below.drew ?_) | (with_reducible refine below_drewN ?_ _) | (apply bthen2; (with_reducible assumption)) | go_size)
  · refine Ints.below HW.out ?_; repeat' (first | (with_reducible exact Below.refl _ _) | (with_reducible assumption) | (with_reducible refine Below.alloc ?_ ?_ _) | (with_reducible refine Below.setCell ?_ ?_ _) | (with_reducible refine Below.drew ?_) | (with_reducible refine below_drewN ?_ _) | (apply bthen2; (with_reducible assumption)) | go_size)
  rintro e wb ⟨rfl, hbb⟩; have hzb := hbb.size; (try simp only [World.size_alloc, World.size_setCell, World.size_drew, World.heap_drewN] at hzb); try (refine keepc hbb (w.heap.size) ?_ ?_; (focus (first | omega | (simp <;> omega))); intro hcb_0 hfb_0 hlb_0); try (refine keepc hbb (w.heap.size + 1) ?_ ?_; (focus (first | omega | (simp <;> omega))); intro hcb_1 hfb_1 hlb_1); try (refine keepc hbb (w.heap.size + 1 + 1) ?_ ?_; (focus (first | omega | (simp <;> omega))); intro hcb_2 hfb_2 hlb_2)
  go_wp2_with fail
  refine (HC.out _ ?_ ?_ ?_ ?_).mono ?_
  · refine Ints.below HX.out ?_; repeat' (first | (with_reducible exact Below.refl _ _) | (with_reducible assumption) | (with_reducible refine Below.alloc ?_ ?_ _) | (with_reducible refine Below.setCell ?_ ?_ _) | (with_reducible refine Below.drew ?_) | (with_reducible refine below_drewN ?_ _) | (apply bthen2; (with_reducible assumption)) | go_size)
  · refine Ints.below HY.out ?_; repeat' (first | (with_reducible exact Below.refl _ _) | (with_reducible assumption) | (with_reducible refine Below.alloc ?_ ?_ _) | (with_reducible refine Below.setCell ?_ ?_ _) | (with_reducible refine Below.drew ?_) | (with_reducible refine below_drewN ?_ _) | (apply bthen2; (with_reducible assumption)) | go_size)
  · refine Ints.below HV.out ?_; repeat' (first | (with_reducible exact Below.refl _ _) | (with_reducible assumption) | (with_reducible refine Below.alloc ?_ ?_ _) | (with_reducible refine Below.setCell ?_ ?_ _) | (with_reducible refine Below.drew ?_) | (with_reducible refine below_drewN ?_ _) | (apply bthen2; (with_reducible assumption)) | go_size)
  · refine Ints.below HW.out ?_; repeat' (first | (with_reducible exact Below.refl _ _) | (with_reducible assumption) | (with_reducible refine Below.alloc ?_ ?_ _) | (with_reducible refine Below.setCell ?_ ?_ _) | (with_reducible refine Below.drew ?_) | (with_reducible refine below_drewN ?_ _) | (apply bthen2; (with_reducible assumption)) | go_size)
  rintro e wc ⟨rfl, hbc⟩; have hzc := hbc.size; (try simp only [World.size_alloc, World.size_setCell, World.size_drew, World.heap_drewN] at hzc); try (refine keepc hbc (w.heap.size) ?_ ?_; (focus (first | omega | (simp <;> omega))); intro hcc_0 hfc_0 hlc_0); try (refine keepc hbc (w.heap.size + 1) ?_ ?_; (focus (first | omega | (simp <;> omega))); intro hcc_1 hfc_1 hlc_1); try (refine keepc hbc (w.heap.size + 1 + 1) ?_ ?_; (focus (first | omega | (simp <;> omega))); intro hcc_2 hfc_2 hlc_2)
  go_wp2
  go_ret2
  exact gives rfl (by repeat' (first | (with_reducible exact Below.refl _ _) | (with_reducible assumption) | (with_reducible refine Below.alloc ?_ ?_ _) | (with_reducible refine Below.setCell ?_ ?_ _) | (with_reducible refine Below.drew ?_) | (with_reducible refine below_drewN ?_ _) | (apply bthen2; (with_reducible assumption)) | go_size))

set_option maxHeartbeats 1000000 in
theorem sCompareRatios_any (n1 n2 n3 n4 : Bool) (a1 a2 a3 a4 : Option Addr) (l1 c1 l2 c2 l3 c3 l4 c4 : Nat) (xs ys us vs : List Int) (w : World) (hx : Ints w (.slice a1 l1 c1) xs) (hy : Ints w (.slice a2 l2 c2) ys) (hv : Ints w (.slice a3 l3 c3) us) (hw : Ints w (.slice a4 l4 c4) vs) :
    Calls Try.prog 31 #[.agg #[.bool n1, .slice a1 l1 c1, .bool n2, .slice a2 l2 c2], .agg #[.bool n3, .slice a3 l3 c3, .bool n4, .slice a4 l4 c4]] w (Gives (.tuple #[.int .i64 (crV n1 xs n2 ys n3 us n4 vs).1, .bool (crV n1 xs n2 ys n3 us n4 vs).2]) w) := by
  have H1 := Lib.hid (fun W h h' => xdGood_any n1 n2 a1 a2 l1 c1 l2 c2 xs ys W h h')
  have H2 := Lib.hid (fun W h h' => xdGood_any n3 n4 a3 a4 l3 c3 l4 c4 us vs W h h')
  have HX := Lib.hid hx; have HY := Lib.hid hy; have HV := Lib.hid hv; have HW := Lib.hid hw
  unfold crV
  cases g1 : ratB n1 xs n2 ys
  · rw [g1] at H1
    simp only [Bool.false_and, Bool.false_eq_true, if_false]
    clear H2 hx hy hv hw
    go_enter Try.func31, Try.ntmps31
    go_wp2_with fail
    refine (H1.out _ ?_ ?_).mono ?_
    · refine Ints.below HX.out ?_; repeat' (first | (with_reducible exact Below.refl _ _) | (with_reducible assumption) | (with_reducible refine Below.alloc ?_ ?_ _) | (with_reducible refine Below.setCell ?_ ?_ _) | (with_reducible refine Below.drew ?_) | (with_reducible refine below_drewN ?_ _) | (apply bthen2; (with_reducible assumption)) | go_size)
    · refine Ints.below HY.out ?_; repeat' (first | (with_reducible exact Below.refl _ _) | (with_reducible assumption) | (with_reducible refine Below.alloc ?_ ?_ _) | (with_reducible refine Below.setCell ?_ ?_ _) | (with_reducible refine Below.drew ?_) | (with_reducible refine below_drewN ?_ _) | (apply bthen2; (with_reducible assumption)) | go_size)
    rintro e wa ⟨rfl, hba⟩; have hza := hba.size; (try simp only [World.size_alloc, World.size_setCell, World.size_drew, World.heap_drewN] at hza); try (refine keepc hba (w.heap.size) ?_ ?_; (focus (first | omega | (simp <;> omega))); intro hca_0 hfa_0 hla_0); try (refine keepc hba (w.heap.size + 1) ?_ ?_; (focus (first | omega | (simp <;> omega))); intro hca_1 hfa_1 hla_1); try (refine keepc hba (w.heap.size + 1 + 1) ?_ ?_; (focus (first | omega | (simp <;> omega))); intro hca_2 hfa_2 hla_2)
    go_wp2
    go_ret2
    exact gives rfl (by repeat' (first | (with_reducible exact Below.refl _ _) | (with_reducible assumption) | (with_reducible refine Below.alloc ?_ ?_ _) | (with_reducible refine Below.setCell ?_ ?_ _) | (with_reducible refine Below.drew ?_) | (with_reducible refine below_drewN ?_ _) | (apply bthen2; (with_reducible assumption)) | go_size))
  cases g2 : ratB n3 us n4 vs
  · rw [g1] at H1; rw [g2] at H2
    simp only [Bool.and_false, Bool.false_eq_true, if_false]
    clear hx hy hv hw
    go_enter Try.func31, Try.ntmps31
    go_wp2_with fail
    refine (H1.out _ ?_ ?_).mono ?_
    · refine Ints.below HX.out ?_; repeat' (first | (with_reducible exact Below.refl _ _) | (with_reducible assumption) | (with_reducible refine Below.alloc ?_ ?_ _) | (with_reducible refine Below.setCell ?_ ?_ _) | (with_reducible refine Below.drew ?_) | (with_reducible refine below_drewN ?_ _) | (apply bthen2; (with_reducible assumption)) | go_size)
    · refine Ints.below HY.out ?_; repeat' (first | (with_reducible exact Below.refl _ _) | (with_reducible assumption) | (with_reducible refine Below.alloc ?_ ?_ _) | (with_reducible refine Below.setCell ?_ ?_ _) | (with_reducible refine Below.drew ?_) | (with_reducible refine below_drewN ?_ _) | (apply bthen2; (with_reducible assumption)) | go_size)
    rintro e wa ⟨rfl, hba⟩; have hza := hba.size; (try simp only [World.size_alloc, World.size_setCell, World.size_drew, World.heap_drewN] at hza); try (refine keepc hba (w.heap.size) ?_ ?_; (focus (first | omega | (simp <;> omega))); intro hca_0 hfa_0 hla_0); try (refine keepc hba (w.heap.size + 1) ?_ ?_; (focus (first | omega | (simp <;> omega))); intro hca_1 hfa_1 hla_1); try (refine keepc hba (w.heap.size + 1 + 1) ?_ ?_; (focus (first | omega | (simp <;> omega))); intro hca_2 hfa_2 hla_2)
    go_wp2_with fail
    refine (H2.out _ ?_ ?_).mono ?_
    · refine Ints.below HV.out ?_; repeat' (first | (with_reducible exact Below.refl _ _) | (with_reducible assumption) | (with_reducible refine Below.alloc ?_ ?_ _) | (with_reducible refine Below.setCell ?_ ?_ _) | (with_reducible refine Below.drew ?_) | (with_reducible refine below_drewN ?_ _) | (apply bthen2; (with_reducible assumption)) | go_size)
    · refine Ints.below HW.out ?_; repeat' (first | (with_reducible exact Below.refl _ _) | (with_reducible assumption) | (with_reducible refine Below.alloc ?_ ?_ _) | (with_reducible refine Below.setCell ?_ ?_ _) | (with_reducible refine Below.drew ?_) | (with_reducible refine below_drewN ?_ _) | (apply bthen2; (with_reducible assumption)) | go_size)
    rintro e wb ⟨rfl, hbb⟩; have hzb := hbb.size; (try simp only [World.size_alloc, World.size_setCell, World.size_drew, World.heap_drewN] at hzb); try (refine keepc hbb (w.heap.size) ?_ ?_; (focus (first | omega | (simp <;> omega))); intro hcb_0 hfb_0 hlb_0); try (refine keepc hbb (w.heap.size + 1) ?_ ?_; (focus (first | omega | (simp <;> omega))); intro hcb_1 hfb_1 hlb_1); try (refine keepc hbb (w.heap.size + 1 + 1) ?_ ?_; (focus (first | omega | (simp <;> omega))); intro hcb_2 hfb_2 hlb_2)
    go_wp2
    go_ret2
    exact gives rfl (by repeat' (first | (with_reducible exact Below.refl _ _) | (with_reducible assumption) | (with_reducible refine Below.alloc ?_ ?_ _) | (with_reducible refine Below.setCell ?_ ?_ _) | (with_reducible refine Below.drew ?_) | (with_reducible refine below_drewN ?_ _) | (apply bthen2; (with_reducible assumption)) | go_size))
  rw [g1] at H1; rw [g2] at H2
  simp only [Bool.and_self, if_true]
  obtain ⟨x1, x2, rfl, rfl, rfl, rfl, k1, k2, -⟩ := ratB_z g1
  obtain ⟨x3, x4, rfl, rfl, rfl, rfl, k3, k4, -⟩ := ratB_z g2
  rw [zv_z, zv_z, zv_z, zv_z]
  clear g1 g2
  have l14 := dg_len_mul x1 x4
  have l32 := dg_len_mul x3 x2
  have M1 := Lib.hid (fun W h h2 => bgMul_any x1 x4 a1 a4 l1 c1 l4 c4 W h h2 (by omega) (by omega))
  have M2 := Lib.hid (fun W h h2 => bgMul_any x3 x2 a3 a2 l3 c3 l2 c2 W h h2 (by omega) (by omega))
  have MC := Lib.hid (fun a b l c m d W h h2 => bgCompare_any (x1 * x4) (x3 * x2) a b l c m d W h h2 (by omega) (by omega))
  unfold GivesZ at M1 M2
  generalize cmpI (x1 * x4) (x3 * x2) = C at *
  generalize dg (x1 * x4).natAbs = P1 at *
  generalize decide (x1 * x4 < 0) = s1 at *
  generalize dg (x3 * x2).natAbs = P2 at *
  generalize decide (x3 * x2 < 0) = s2 at *
  generalize dg x1.natAbs = D1 at *
  generalize dg x2.natAbs = D2 at *
  generalize dg x3.natAbs = D3 at *
  generalize dg x4.natAbs = D4 at *
  generalize decide (x1 < 0) = n1 at *
  generalize decide (x2 < 0) = n2 at *
  generalize decide (x3 < 0) = n3 at *
  generalize decide (x4 < 0) = n4 at *
  clear l14 l32 k1 k2 k3 k4
  go_enter Try.func31, Try.ntmps31
  go_wp2_with fail
  refine (H1.out _ ?_ ?_).mono ?_
  · refine Ints.below HX.out ?_; repeat' (first | (with_reducible exact Below.refl _ _) | (with_reducible assumption) | (with_reducible refine Below.alloc ?_ ?_ _) | (with_reducible refine Below.setCell ?_ ?_ _) | (with_reducible refine Below.drew ?_) | (with_reducible refine below_drewN ?_ _) | (apply bthen2; (with_reducible assumption)) | go_size)
  · refine Ints.below HY.out ?_; repeat' (first | (with_reducible exact Below.refl _ _) | (with_reducible assumption) | (with_reducible refine Below.alloc ?_ ?_ _) | (with_reducible refine Below.setCell ?_ ?_ _) | (with_reducible refine Below.drew ?_) | (with_reducible refine below_drewN ?_ _) | (apply bthen2; (with_reducible assumption)) | go_size)
  rintro e wa ⟨rfl, hba⟩; have hza := hba.size; (try simp only [World.size_alloc, World.size_setCell, World.size_drew, World.heap_drewN] at hza); try (refine keepc hba (w.heap.size) ?_ ?_; (focus (first | omega | (simp <;> omega))); intro hca_0 hfa_0 hla_0); try (refine keepc hba (w.heap.size + 1) ?_ ?_; (focus (first | omega | (simp <;> omega))); intro hca_1 hfa_1 hla_1); try (refine keepc hba (w.heap.size + 1 + 1) ?_ ?_; (focus (first | omega | (simp <;> omega))); intro hca_2 hfa_2 hla_2)
  go_wp2_with fail
  refine (H2.out _ ?_ ?_).mono ?_
  · refine Ints.below HV.out ?_; repeat' (first | (with_reducible exact Below.refl _ _) | (with_reducible assumption) | (with_reducible refine Below.alloc ?_ ?_ _) | (with_reducible refine Below.setCell ?_ ?_ _) | (with_reducible refine Below.drew ?_) | (with_reducible refine below_drewN ?_ _) | (apply bthen2; (with_reducible assumption)) | go_size)
  · refine Ints.below HW.out ?_; repeat' (first | (with_reducible exact Below.refl _ _) | (with_reducible assumption) | (with_reducible refine Below.alloc ?_ ?_ _) | (with_reducible refine Below.setCell ?_ ?_ _) | (with_reducible refine Below.drew ?_) | (with_reducible refine below_drewN ?_ _) | (apply bthen2; (with_reducible assumption)) | go_size)
  rintro e wb ⟨rfl, hbb⟩; have hzb := hbb.size; (try simp only [World.size_alloc, World.size_setCell, World.size_drew, World.heap_drewN] at hzb); try (refine keepc hbb (w.heap.size) ?_ ?_; (focus (first | omega | (simp <;> omega))); intro hcb_0 hfb_0 hlb_0); try (refine keepc hbb (w.heap.size + 1) ?_ ?_; (focus (first | omega | (simp <;> omega))); intro hcb_1 hfb_1 hlb_1); try (refine keepc hbb (w.heap.size + 1 + 1) ?_ ?_; (focus (first | omega | (simp <;> omega))); intro hcb_2 hfb_2 hlb_2)
  go_upto_region 3 with fail
  obtain ⟨W1, hW⟩ : ∃ x, x = wb := ⟨_, rfl⟩
  have z0 : W1.cell? ⟨w.heap.size, 0, none⟩ = some (.bool n1) := by subst hW; simp [hcb_0, hcb_1, hca_0, hca_1, hla_0, hla_1, hlb_0, hlb_1, go_sem]
  have z1 : W1.cell? ⟨w.heap.size, 1, none⟩ = some (.slice a1 l1 c1) := by subst hW; simp [hcb_0, hcb_1, hca_0, hca_1, hla_0, hla_1, hlb_0, hlb_1, go_sem]
  have z2 : W1.cell? ⟨w.heap.size, 2, none⟩ = some (.bool n2) := by subst hW; simp [hcb_0, hcb_1, hca_0, hca_1, hla_0, hla_1, hlb_0, hlb_1, go_sem]
  have z3 : W1.cell? ⟨w.heap.size, 3, none⟩ = some (.slice a2 l2 c2) := by subst hW; simp [hcb_0, hcb_1, hca_0, hca_1, hla_0, hla_1, hlb_0, hlb_1, go_sem]
  have y0 : W1.cell? ⟨w.heap.size + 1, 0, none⟩ = some (.bool n3) := by subst hW; simp [hcb_0, hcb_1, hca_0, hca_1, hla_0, hla_1, hlb_0, hlb_1, go_sem]
  have y1 : W1.cell? ⟨w.heap.size + 1, 1, none⟩ = some (.slice a3 l3 c3) := by subst hW; simp [hcb_0, hcb_1, hca_0, hca_1, hla_0, hla_1, hlb_0, hlb_1, go_sem]
  have y2 : W1.cell? ⟨w.heap.size + 1, 2, none⟩ = some (.bool n4) := by subst hW; simp [hcb_0, hcb_1, hca_0, hca_1, hla_0, hla_1, hlb_0, hlb_1, go_sem]
  have y3 : W1.cell? ⟨w.heap.size + 1, 3, none⟩ = some (.slice a4 l4 c4) := by subst hW; simp [hcb_0, hcb_1, hca_0, hca_1, hla_0, hla_1, hlb_0, hlb_1, go_sem]
  have hB : Below w.heap.size w W1 := by subst hW; exact (by repeat' (first | (with_reducible exact Below.refl _ _) | (with_reducible assumption) | (with_reducible refine Below.alloc ?_ ?_ _) | (with_reducible refine Below.setCell ?_ ?_ _) | (with_reducible refine Below.drew ?_) | (with_reducible refine below_drewN ?_ _) | (apply bthen2; (with_reducible assumption)) | go_size))
  have hs0 : w.heap.size + 1 < W1.heap.size := by subst hW; omega
  have gx := Ints.below hx hB
  have gy := Ints.below hy hB
  have gv := Ints.below hv hB
  have gw := Ints.below hw hB
  subst hW
  clear hx hy hv hw HX HY HV HW H1 H2 hcb_0 hcb_1 hca_0 hca_1 hfb_0 hfb_1 hfa_0 hfa_1 hba hbb
  go_region_held3 (fun w' => Below W1.heap.size W1 w' ∧ w'.cell? ⟨w.heap.size, 0, none⟩ = some (.bool n1) ∧ w'.cell? ⟨w.heap.size, 1, none⟩ = some (.slice a1 l1 c1) ∧ w'.cell? ⟨w.heap.size, 2, none⟩ = some (.bool n2) ∧ w'.cell? ⟨w.heap.size, 3, none⟩ = some (.slice a2 l2 c2) ∧ w'.cell? ⟨w.heap.size + 1, 0, none⟩ = some (.bool n3) ∧ w'.cell? ⟨w.heap.size + 1, 1, none⟩ = some (.slice a3 l3 c3) ∧ w'.cell? ⟨w.heap.size + 1, 2, none⟩ = some (.bool n4) ∧ w'.cell? ⟨w.heap.size + 1, 3, none⟩ = some (.slice a4 l4 c4)) ((refine (fun hbK => And.intro hbK (by exact ⟨(hbK.cell (p := ⟨w.heap.size, 0, none⟩) (by first | assumption | omega | (simp; omega))).trans z0, (hbK.cell (p := ⟨w.heap.size, 1, none⟩) (by first | assumption | omega | (simp; omega))).trans z1, (hbK.cell (p := ⟨w.heap.size, 2, none⟩) (by first | assumption | omega | (simp; omega))).trans z2, (hbK.cell (p := ⟨w.heap.size, 3, none⟩) (by first | assumption | omega | (simp; omega))).trans z3, (hbK.cell (p := ⟨w.heap.size + 1, 0, none⟩) (by first | assumption | omega | (simp; omega))).trans y0, (hbK.cell (p := ⟨w.heap.size + 1, 1, none⟩) (by first | assumption | omega | (simp; omega))).trans y1, (hbK.cell (p := ⟨w.heap.size + 1, 2, none⟩) (by first | assumption | omega | (simp; omega))).trans y2, (hbK.cell (p := ⟨w.heap.size + 1, 3, none⟩) (by first | assumption | omega | (simp; omega))).trans y3⟩)) ?_; repeat' (first | (with_reducible exact Below.refl _ _) | (with_reducible assumption) | (with_reducible refine Below.alloc ?_ ?_ _) | (with_reducible refine Below.setCell ?_ ?_ _) | (with_reducible refine Below.drew ?_) | (with_reducible refine below_drewN ?_ _) | (apply bthen2; (with_reducible assumption)) | go_size))) ((first | (go_at_call_of 64 (Value.slice a1 l1 c1); refine (M1.out _ ?_ ?_).mono ?_; (focus (refine Ints.below gx ?_; repeat' (first | (with_reducible exact Below.refl _ _) | (with_reducible assumption) | (with_reducible refine Below.alloc ?_ ?_ _) | (with_reducible refine Below.setCell ?_ ?_ _) | (with_reducible refine Below.drew ?_) | (with_reducible refine below_drewN ?_ _) | (apply bthen2; (with_reducible assumption)) | go_size))); (focus (refine Ints.below gw ?_; repeat' (first | (with_reducible exact Below.refl _ _) | (with_reducible assumption) | (with_reducible refine Below.alloc ?_ ?_ _) | (with_reducible refine Below.setCell ?_ ?_ _) | (with_reducible refine Below.drew ?_) | (with_reducible refine below_drewN ?_ _) | (apply bthen2; (with_reducible assumption)) | go_size))); rintro e wf ⟨fa, fl, fc, rfl, hof, hbf⟩) | (go_at_call_of 64 (Value.slice a3 l3 c3); refine (M2.out _ ?_ ?_).mono ?_; (focus (refine Ints.below gv ?_; repeat' (first | (with_reducible exact Below.refl _ _) | (with_reducible assumption) | (with_reducible refine Below.alloc ?_ ?_ _) | (with_reducible refine Below.setCell ?_ ?_ _) | (with_reducible refine Below.drew ?_) | (with_reducible refine below_drewN ?_ _) | (apply bthen2; (with_reducible assumption)) | go_size))); (focus (refine Ints.below gy ?_; repeat' (first | (with_reducible exact Below.refl _ _) | (with_reducible assumption) | (with_reducible refine Below.alloc ?_ ?_ _) | (with_reducible refine Below.setCell ?_ ?_ _) | (with_reducible refine Below.drew ?_) | (with_reducible refine below_drewN ?_ _) | (apply bthen2; (with_reducible assumption)) | go_size))); rintro e wg ⟨ga, gl, gc, rfl, hog, hbg⟩) | (go_at_call 63; refine (MC.out _ _ _ _ _ _ _ ?_ ?_).mono ?_; (focus (refine Ints.below hof.ints ?_; repeat' (first | (with_reducible exact Below.refl _ _) | (with_reducible assumption) | (with_reducible refine Below.alloc ?_ ?_ _) | (with_reducible refine Below.setCell ?_ ?_ _) | (with_reducible refine Below.drew ?_) | (with_reducible refine below_drewN ?_ _) | (apply bthen2; (with_reducible assumption)) | go_size))); (focus (refine Ints.below hog.ints ?_; repeat' (first | (with_reducible exact Below.refl _ _) | (with_reducible assumption) | (with_reducible refine Below.alloc ?_ ?_ _) | (with_reducible refine Below.setCell ?_ ?_ _) | (with_reducible refine Below.drew ?_) | (with_reducible refine below_drewN ?_ _) | (apply bthen2; (with_reducible assumption)) | go_size))); rintro e wh ⟨rfl, hbh⟩)))
  all_goals (go_wp2; go_ret2; exact gives rfl (by repeat' (first | (with_reducible exact Below.refl _ _) | (with_reducible assumption) | (with_reducible refine Below.alloc ?_ ?_ _) | (with_reducible refine Below.setCell ?_ ?_ _) | (with_reducible refine Below.drew ?_) | (with_reducible refine below_drewN ?_ _) | (apply bthen2; (with_reducible assumption)) | go_size)))

end Go.Proofs.Ytopdeoicglkbkaa
