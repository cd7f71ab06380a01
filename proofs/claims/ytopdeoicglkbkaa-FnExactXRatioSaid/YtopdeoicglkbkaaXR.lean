import Derived.Test.YtopdeoicglkbkaaBox
import Derived.Test.YtopdeoicglkbkaaPon
import Derived.Test.YtopdeoicglkbkaaRat2
set_option linter.unusedSimpArgs false
set_option linter.unusedVariables false
namespace Go.Proofs.Ytopdeoicglkbkaa
open Go.RowKit
/-! ### the ratio of a point's x -/

def xrOk (a b x y e : Int) : Bool := ptB a b x y e && decide (e ≠ 0)
def xrN (a b x y e : Int) : Bool := xrOk a b x y e && decide (x < 0)
def xrX (a b x y e : Int) : List Int := if xrOk a b x y e then dg x.natAbs else []
def xrD (a b x y e : Int) : Bool := xrOk a b x y e && decide (e * e < 0)
def xrY (a b x y e : Int) : List Int := if xrOk a b x y e then dg (e * e).natAbs else []
theorem xr_rng {a b x y e : Int} (h : xrOk a b x y e = true) : (-10000 ≤ x ∧ x ≤ 10000) ∧ (1 ≤ e ∧ e ≤ 20) ∧ (1 ≤ e * e ∧ e * e ≤ 400) := by
  unfold xrOk ptB at h
  simp only [Bool.and_eq_true, Bool.or_eq_true, decide_eq_true_eq, inB_iff] at h
  obtain ⟨⟨-, h1⟩, h2⟩ := h
  rcases h1 with h1 | h1
  · exact absurd h1.2.2 h2
  · obtain ⟨⟨⟨h3, h4⟩, -⟩, -⟩ := h1
    refine ⟨h3, h4, ?_⟩
    have a1 : 1 * 1 ≤ e * e := Int.mul_le_mul h4.1 h4.1 (by omega) (by omega)
    have a2 : e * e ≤ 20 * 20 := Int.mul_le_mul h4.2 h4.2 (by omega) (by omega)
    omega

theorem IsPointOf_any (a b x y e : Int) (w : World) : Calls Try.prog 50 #[.agg #[.int .i64 a, .int .i64 b], .agg #[.int .i64 x, .int .i64 y, .int .i64 e]] w (Gives (.bool (ptB a b x y e)) w) := by
  have HC := Lib.hid (fun w => ecGood_any a b w)
  cases gC : isC a b
  · rw [gC] at HC
    rw [show ptB a b x y e = false by unfold ptB; rw [gC]; rfl]
    clear gC
    go_enter Try.func50, Try.ntmps50
    go_wp2_with fail
    refine (HC.out _).mono ?_
    rintro e wa ⟨rfl, hba⟩; have hza := hba.size; (try simp only [World.size_alloc, World.size_setCell, World.size_drew, World.heap_drewN] at hza); try (refine keepc hba (w.heap.size) ?_ ?_; (focus (first | omega | (simp <;> omega))); intro hca_0 hfa_0 hla_0); try (refine keepc hba (w.heap.size + 1) ?_ ?_; (focus (first | omega | (simp <;> omega))); intro hca_1 hfa_1 hla_1); try (refine keepc hba (w.heap.size + 1 + 1) ?_ ?_; (focus (first | omega | (simp <;> omega))); intro hca_2 hfa_2 hla_2)
    go_wp2
    go_ret; exact gives rfl (by repeat' (first | (with_reducible exact Below.refl _ _) | (with_reducible assumption) | (with_reducible refine Below.alloc ?_ ?_ _) | (with_reducible refine Below.setCell ?_ ?_ _) | (with_reducible refine Below.drew ?_) | (with_reducible refine below_drewN ?_ _) | (apply bthen2; (with_reducible assumption)) | go_size))
  · rw [gC] at HC
    have HP := Lib.hid (fun w => ptOn_any a b x y e gC w)
    clear gC
    generalize ptB a b x y e = B at *
    go_enter Try.func50, Try.ntmps50
    go_wp2_with fail
    refine (HC.out _).mono ?_
    rintro e wa ⟨rfl, hba⟩; have hza := hba.size; (try simp only [World.size_alloc, World.size_setCell, World.size_drew, World.heap_drewN] at hza); try (refine keepc hba (w.heap.size) ?_ ?_; (focus (first | omega | (simp <;> omega))); intro hca_0 hfa_0 hla_0); try (refine keepc hba (w.heap.size + 1) ?_ ?_; (focus (first | omega | (simp <;> omega))); intro hca_1 hfa_1 hla_1); try (refine keepc hba (w.heap.size + 1 + 1) ?_ ?_; (focus (first | omega | (simp <;> omega))); intro hca_2 hfa_2 hla_2)
    go_wp2_with fail
    refine (HP.out _).mono ?_
    rintro e wb ⟨rfl, hbb⟩; have hzb := hbb.size; (try simp only [World.size_alloc, World.size_setCell, World.size_drew, World.heap_drewN] at hzb); try (refine keepc hbb (w.heap.size) ?_ ?_; (focus (first | omega | (simp <;> omega))); intro hcb_0 hfb_0 hlb_0); try (refine keepc hbb (w.heap.size + 1) ?_ ?_; (focus (first | omega | (simp <;> omega))); intro hcb_1 hfb_1 hlb_1); try (refine keepc hbb (w.heap.size + 1 + 1) ?_ ?_; (focus (first | omega | (simp <;> omega))); intro hcb_2 hfb_2 hlb_2)
    go_wp2
    go_ret; exact gives rfl (by repeat' (first | (with_reducible exact Below.refl _ _) | (with_reducible assumption) | (with_reducible refine Below.alloc ?_ ?_ _) | (with_reducible refine Below.setCell ?_ ?_ _) | (with_reducible refine Below.drew ?_) | (with_reducible refine below_drewN ?_ _) | (apply bthen2; (with_reducible assumption)) | go_size))

theorem toPoint_any (a b c : Int) (w : World) : Calls Try.prog 21 #[.agg #[.int .i64 a, .int .i64 b, .int .i64 c]] w (Gives (.agg #[.int .i64 a, .int .i64 b, .int .i64 c]) w) := by
  go_enter Try.func21, Try.ntmps21
  go_wp2
  go_returns
  exact gives rfl (by repeat' (first | (with_reducible exact Below.refl _ _) | (with_reducible assumption) | (with_reducible refine Below.alloc ?_ ?_ _) | (with_reducible refine Below.setCell ?_ ?_ _) | (with_reducible refine Below.drew ?_) | (with_reducible refine below_drewN ?_ _) | (apply bthen2; (with_reducible assumption)) | go_size))

set_option maxRecDepth 100000 in
set_option maxHeartbeats 1000000 in
theorem XRatio_any (a b x y e : Int) (w : World) : Calls Try.prog 22 #[.agg #[.int .i64 a, .int .i64 b], .agg #[.int .i64 x, .int .i64 y, .int .i64 e]] w (GivesRT (xrOk a b x y e) (xrN a b x y e) (xrX a b x y e) (xrD a b x y e) (xrY a b x y e) w) := by
  have HP := Lib.hid (fun w => isPoint_any a b x y e w)
  cases gP : ptB a b x y e
  · have g : xrOk a b x y e = false := by unfold xrOk; rw [gP]; rfl
    unfold xrN xrX xrD xrY
    rw [g]
    rw [gP] at HP
    simp only [Bool.false_and, Bool.false_eq_true, if_false]
    clear g gP
    go_enter Try.func22, Try.ntmps22
    go_wp2_with fail
    refine (HP.out _).mono ?_
    rintro e wa ⟨rfl, hba⟩; have hza := hba.size; (try simp only [World.size_alloc, World.size_setCell, World.size_drew, World.heap_drewN] at hza); try (refine keepc hba (w.heap.size) ?_ ?_; (focus (first | omega | (simp <;> omega))); intro hca_0 hfa_0 hla_0); try (refine keepc hba (w.heap.size + 1) ?_ ?_; (focus (first | omega | (simp <;> omega))); intro hca_1 hfa_1 hla_1); try (refine keepc hba (w.heap.size + 1 + 1) ?_ ?_; (focus (first | omega | (simp <;> omega))); intro hca_2 hfa_2 hla_2)
    go_wp2_with fail
    refine bodyPost_ret (v := .tuple #[.agg #[.bool false, .slice none 0 0, .bool false, .slice none 0 0], .bool false]) (by simp [results, Try.results22, go_sem, hca_2, hla_2]) rfl ⟨_, _, _, _, _, _, rfl, Twin.nil _ _, (by repeat' (first | (with_reducible exact Below.refl _ _) | (with_reducible assumption) | (with_reducible refine Below.alloc ?_ ?_ _) | (with_reducible refine Below.setCell ?_ ?_ _) | (with_reducible refine Below.drew ?_) | (with_reducible refine below_drewN ?_ _) | (apply bthen2; (with_reducible assumption)) | go_size))⟩
  rw [gP] at HP
  by_cases he : e = 0
  · subst he
    have g : xrOk a b x y 0 = false := by unfold xrOk; rw [gP]; rfl
    unfold xrN xrX xrD xrY
    rw [g]
    simp only [Bool.false_and, Bool.false_eq_true, if_false]
    clear g gP
    go_enter Try.func22, Try.ntmps22
    go_wp2_with fail
    refine (HP.out _).mono ?_
    rintro e wa ⟨rfl, hba⟩; have hza := hba.size; (try simp only [World.size_alloc, World.size_setCell, World.size_drew, World.heap_drewN] at hza); try (refine keepc hba (w.heap.size) ?_ ?_; (focus (first | omega | (simp <;> omega))); intro hca_0 hfa_0 hla_0); try (refine keepc hba (w.heap.size + 1) ?_ ?_; (focus (first | omega | (simp <;> omega))); intro hca_1 hfa_1 hla_1); try (refine keepc hba (w.heap.size + 1 + 1) ?_ ?_; (focus (first | omega | (simp <;> omega))); intro hca_2 hfa_2 hla_2)
    go_wp2_with fail
    refine bodyPost_ret (v := .tuple #[.agg #[.bool false, .slice none 0 0, .bool false, .slice none 0 0], .bool false]) (by simp [results, Try.results22, go_sem, hca_2, hla_2]) rfl ⟨_, _, _, _, _, _, rfl, Twin.nil _ _, (by repeat' (first | (with_reducible exact Below.refl _ _) | (with_reducible assumption) | (with_reducible refine Below.alloc ?_ ?_ _) | (with_reducible refine Below.setCell ?_ ?_ _) | (with_reducible refine Below.drew ?_) | (with_reducible refine below_drewN ?_ _) | (apply bthen2; (with_reducible assumption)) | go_size))⟩
  · have g : xrOk a b x y e = true := by unfold xrOk; rw [gP]; simp [he]
    obtain ⟨r1, r2, r3⟩ := xr_rng g
    have he2 : wrap64 (e * e) = e * e := win (by omega)
    have HN := Lib.hid (fun w => wholeOf_any x (by omega) (by omega) w)
    have HD := Lib.hid (fun w => wholeOf_any (e * e) (by omega) (by omega) w)
    unfold xrN xrX xrD xrY
    rw [g]
    simp only [Bool.true_and, if_true]
    clear g gP
    generalize dg x.natAbs = X at *
    generalize decide (x < 0) = s1 at *
    have EE := Lib.hid (show ∃ E, E = e * e ∧ 1 ≤ E ∧ E ≤ 400 from ⟨_, rfl, r3⟩)
    generalize dg (e * e).natAbs = Y at *
    generalize decide (e * e < 0) = s2 at *
    go_enter Try.func22, Try.ntmps22
    go_wp2_with fail
    refine (HP.out _).mono ?_
    rintro e wa ⟨rfl, hba⟩; have hza := hba.size; (try simp only [World.size_alloc, World.size_setCell, World.size_drew, World.heap_drewN] at hza); try (refine keepc hba (w.heap.size) ?_ ?_; (focus (first | omega | (simp <;> omega))); intro hca_0 hfa_0 hla_0); try (refine keepc hba (w.heap.size + 1) ?_ ?_; (focus (first | omega | (simp <;> omega))); intro hca_1 hfa_1 hla_1); try (refine keepc hba (w.heap.size + 1 + 1) ?_ ?_; (focus (first | omega | (simp <;> omega))); intro hca_2 hfa_2 hla_2)
    go_upto_region 3 with fail
    have hB : Below w.heap.size w wa := (by repeat' (first | (with_reducible exact Below.refl _ _) | (with_reducible assumption) | (with_reducible refine Below.alloc ?_ ?_ _) | (with_reducible refine Below.setCell ?_ ?_ _) | (with_reducible refine Below.drew ?_) | (with_reducible refine below_drewN ?_ _) | (apply bthen2; (with_reducible assumption)) | go_size))
    have c0 : wa.cell? ⟨w.heap.size + 1, 0, none⟩ = some (.int .i64 x) := by simp [hca_1, go_sem]
    have c1 : wa.cell? ⟨w.heap.size + 1, 1, none⟩ = some (.int .i64 y) := by simp [hca_1, go_sem]
    have c2 : wa.cell? ⟨w.heap.size + 1, 2, none⟩ = some (.int .i64 e) := by simp [hca_1, go_sem]
    have hR : Box wa (w.heap.size + 1 + 1) [.bool false, .slice none 0 0, .bool false, .slice none 0 0] := box_four (by first | exact hla_2 | omega) (by simp [hca_2, go_sem]) (by simp [hca_2, go_sem]) (by simp [hca_2, go_sem]) (by simp [hca_2, go_sem]) (fun o => by simp [hfa_2, go_sem])
    clear hca_0 hca_1 hca_2 hfa_0 hfa_1 hfa_2 hba HP
    go_region_held3 (fun w' => Below (w.heap.size + 1 + 1) wa w' ∧ w'.cell? ⟨w.heap.size + 1, 0, none⟩ = some (.int .i64 x) ∧ w'.cell? ⟨w.heap.size + 1, 1, none⟩ = some (.int .i64 y) ∧ w'.cell? ⟨w.heap.size + 1, 2, none⟩ = some (.int .i64 e)) ((refine (fun hbK => And.intro hbK (by exact ⟨(hbK.cell (p := ⟨w.heap.size + 1, 0, none⟩) (by first | assumption | omega | (simp; done) | (simp; omega))).trans c0, (hbK.cell (p := ⟨w.heap.size + 1, 1, none⟩) (by first | assumption | omega | (simp; done) | (simp; omega))).trans c1, (hbK.cell (p := ⟨w.heap.size + 1, 2, none⟩) (by first | assumption | omega | (simp; done) | (simp; omega))).trans c2⟩)) ?_; repeat' (first | (with_reducible exact Below.refl _ _) | (with_reducible assumption) | (with_reducible refine Below.alloc ?_ ?_ _) | (with_reducible refine Below.setCell ?_ ?_ _) | (with_reducible refine Below.drew ?_) | (with_reducible refine bthen3 (by assumption) ?_ ?_) | omega | (simp; done) | (simp; omega)))) ((first | (go_at_call_of 49 (x); refine (HN.out _).mono ?_; rintro e wf ⟨fa, fl, fc, rfl, hof, hbf⟩; have hzf := hbf.size; (try simp only [World.size_drew] at hzf); have qR := Box.below (by first | exact hR.drew | (with_reducible assumption)) hbf; have q0 := qR.2.1 0 _ rfl; have q1 := qR.2.1 1 _ rfl; have q2 := qR.2.1 2 _ rfl; have q3 := qR.2.1 3 _ rfl; have qf := qR.2.2) | ((try simp only [IntWalk.i64_left, he2]); go_at_call_of 49 (e * e); refine (HD.out _).mono ?_; rintro e wg ⟨ga, gl, gc, rfl, hog, hbg⟩; have hzg := hbg.size; (try simp only [World.size_drew] at hzg); have qR := Box.below (by first | exact hR.drew | (with_reducible assumption)) hbg; have q0 := qR.2.1 0 _ rfl; have q1 := qR.2.1 1 _ rfl; have q2 := qR.2.1 2 _ rfl; have q3 := qR.2.1 3 _ rfl; have qf := qR.2.2)))
    all_goals
      have hq := qR.1
      go_wp2_with fail
      refine bodyPost_ret (v := .tuple #[.agg #[.bool s1, .slice fa fl fc, .bool s2, .slice ga gl gc], .bool true]) (by simp [results, Try.results22, go_sem, q0, q1, q2, q3, hq]) rfl ⟨_, _, _, _, _, _, rfl, ?_, (by repeat' (first | (with_reducible exact Below.refl _ _) | (with_reducible assumption) | (with_reducible refine Below.alloc ?_ ?_ _) | (with_reducible refine Below.setCell ?_ ?_ _) | (with_reducible refine Below.drew ?_) | (with_reducible refine below_drewN ?_ _) | (apply bthen2; (with_reducible assumption)) | go_size))⟩
      refine Twin.mono (B := wa.heap.size) ?_ (by omega)
      refine Twin.set (Twin.set (Twin.set (Twin.set ?_ (by show w.heap.size + 1 + 1 < wa.heap.size; omega) _) (by show w.heap.size + 1 + 1 < wa.heap.size; omega) _) (by show w.heap.size + 1 + 1 < wa.heap.size; omega) _) (by show w.heap.size + 1 + 1 < wa.heap.size; omega) _
      first | exact Twin.of (hof.mono (Nat.le_refl _)) (by omega) hog hbg | exact (Twin.of (hog.mono (Nat.le_refl _)) (by omega) hof hbf).swap

set_option maxRecDepth 100000 in
set_option maxHeartbeats 1000000 in
theorem sXRatio_any (a b x y e : Int) (w : World) : Calls Try.prog 19 #[.agg #[.int .i64 a, .int .i64 b], .agg #[.int .i64 x, .int .i64 y, .int .i64 e]] w (GivesRB (xrOk a b x y e) (xrN a b x y e) (xrX a b x y e) (xrD a b x y e) (xrY a b x y e) w) := by
  have HP := Lib.hid (fun w => IsPointOf_any a b x y e w)
  cases gP : ptB a b x y e
  · have g : xrOk a b x y e = false := by unfold xrOk; rw [gP]; rfl
    unfold xrN xrX xrD xrY
    rw [g]
    rw [gP] at HP
    simp only [Bool.false_and, Bool.false_eq_true, if_false]
    clear g gP
    go_enter Try.func19, Try.ntmps19
    go_wp2_with fail
    refine (HP.out _).mono ?_
    rintro e wa ⟨rfl, hba⟩; have hza := hba.size; (try simp only [World.size_alloc, World.size_setCell, World.size_drew, World.heap_drewN] at hza); try (refine keepc hba (w.heap.size) ?_ ?_; (focus (first | omega | (simp <;> omega))); intro hca_0 hfa_0 hla_0); try (refine keepc hba (w.heap.size + 1) ?_ ?_; (focus (first | omega | (simp <;> omega))); intro hca_1 hfa_1 hla_1); try (refine keepc hba (w.heap.size + 1 + 1) ?_ ?_; (focus (first | omega | (simp <;> omega))); intro hca_2 hfa_2 hla_2)
    go_wp2_with fail
    refine bodyPost_ret (v := .tuple #[.agg #[.bool false, .slice none 0 0, .bool false, .slice none 0 0], .bool false]) (by simp [results, Try.results19, go_sem, hca_2, hla_2]) rfl ⟨_, _, _, _, _, _, rfl, Two.nil _ _, (by repeat' (first | (with_reducible exact Below.refl _ _) | (with_reducible assumption) | (with_reducible refine Below.alloc ?_ ?_ _) | (with_reducible refine Below.setCell ?_ ?_ _) | (with_reducible refine Below.drew ?_) | (with_reducible refine below_drewN ?_ _) | (apply bthen2; (with_reducible assumption)) | go_size))⟩
  rw [gP] at HP
  by_cases he : e = 0
  · subst he
    have g : xrOk a b x y 0 = false := by unfold xrOk; rw [gP]; rfl
    unfold xrN xrX xrD xrY
    rw [g]
    simp only [Bool.false_and, Bool.false_eq_true, if_false]
    clear g gP
    go_enter Try.func19, Try.ntmps19
    go_wp2_with fail
    refine (HP.out _).mono ?_
    rintro e wa ⟨rfl, hba⟩; have hza := hba.size; (try simp only [World.size_alloc, World.size_setCell, World.size_drew, World.heap_drewN] at hza); try (refine keepc hba (w.heap.size) ?_ ?_; (focus (first | omega | (simp <;> omega))); intro hca_0 hfa_0 hla_0); try (refine keepc hba (w.heap.size + 1) ?_ ?_; (focus (first | omega | (simp <;> omega))); intro hca_1 hfa_1 hla_1); try (refine keepc hba (w.heap.size + 1 + 1) ?_ ?_; (focus (first | omega | (simp <;> omega))); intro hca_2 hfa_2 hla_2)
    go_wp2_with fail
    refine bodyPost_ret (v := .tuple #[.agg #[.bool false, .slice none 0 0, .bool false, .slice none 0 0], .bool false]) (by simp [results, Try.results19, go_sem, hca_2, hla_2]) rfl ⟨_, _, _, _, _, _, rfl, Two.nil _ _, (by repeat' (first | (with_reducible exact Below.refl _ _) | (with_reducible assumption) | (with_reducible refine Below.alloc ?_ ?_ _) | (with_reducible refine Below.setCell ?_ ?_ _) | (with_reducible refine Below.drew ?_) | (with_reducible refine below_drewN ?_ _) | (apply bthen2; (with_reducible assumption)) | go_size))⟩
  · have g : xrOk a b x y e = true := by unfold xrOk; rw [gP]; simp [he]
    obtain ⟨r1, r2, r3⟩ := xr_rng g
    have he2 : wrap64 (e * e) = e * e := win (by omega)
    have HX := Lib.hid (fun w => xdOf_any x (e * e) (by omega) (by omega) (by omega) (by omega) w)
    unfold xrN xrX xrD xrY
    rw [g]
    simp only [Bool.true_and, if_true]
    clear g gP
    generalize dg x.natAbs = X at *
    generalize decide (x < 0) = s1 at *
    have EE := Lib.hid (show ∃ E, E = e * e ∧ 1 ≤ E ∧ E ≤ 400 from ⟨_, rfl, r3⟩)
    generalize dg (e * e).natAbs = Y at *
    generalize decide (e * e < 0) = s2 at *
    go_enter Try.func19, Try.ntmps19
    go_wp2_with fail
    refine (HP.out _).mono ?_
    rintro e wa ⟨rfl, hba⟩; have hza := hba.size; (try simp only [World.size_alloc, World.size_setCell, World.size_drew, World.heap_drewN] at hza); try (refine keepc hba (w.heap.size) ?_ ?_; (focus (first | omega | (simp <;> omega))); intro hca_0 hfa_0 hla_0); try (refine keepc hba (w.heap.size + 1) ?_ ?_; (focus (first | omega | (simp <;> omega))); intro hca_1 hfa_1 hla_1); try (refine keepc hba (w.heap.size + 1 + 1) ?_ ?_; (focus (first | omega | (simp <;> omega))); intro hca_2 hfa_2 hla_2)
    go_wp2_with fail
    refine (HX.out _).mono ?_
    rintro e wb ⟨a1, l1, c1, a2, l2, c2, rfl, T, hbb⟩
    have hzb := hbb.size; (try simp only [World.size_alloc, World.size_setCell, World.size_drew, World.heap_drewN] at hzb); try (refine keepc hbb (w.heap.size) ?_ ?_; (focus (first | omega | (simp <;> omega))); intro hcb_0 hfb_0 hlb_0); try (refine keepc hbb (w.heap.size + 1) ?_ ?_; (focus (first | omega | (simp <;> omega))); intro hcb_1 hfb_1 hlb_1); try (refine keepc hbb (w.heap.size + 1 + 1) ?_ ?_; (focus (first | omega | (simp <;> omega))); intro hcb_2 hfb_2 hlb_2)
    go_wp2_with fail
    refine bodyPost_ret (v := .tuple #[.agg #[.bool s1, .slice a1 l1 c1, .bool s2, .slice a2 l2 c2], .bool true]) (by simp [results, Try.results19, go_sem, hcb_2, hca_2, hlb_2, hla_2]) rfl ⟨_, _, _, _, _, _, rfl, ((((T.set (p := ⟨w.heap.size + 1 + 1, 0, none⟩) (by simp; omega) _).set (p := ⟨w.heap.size + 1 + 1, 1, none⟩) (by simp; omega) _).set (p := ⟨w.heap.size + 1 + 1, 2, none⟩) (by simp; omega) _).set (p := ⟨w.heap.size + 1 + 1, 3, none⟩) (by simp; omega) _).mono (by omega), (by repeat' (first | (with_reducible exact Below.refl _ _) | (with_reducible assumption) | (with_reducible refine Below.alloc ?_ ?_ _) | (with_reducible refine Below.setCell ?_ ?_ _) | (with_reducible refine Below.drew ?_) | (with_reducible refine below_drewN ?_ _) | (apply bthen2; (with_reducible assumption)) | go_size))⟩

end Go.Proofs.Ytopdeoicglkbkaa
