import Derived.Test.YtiafgfnefhcabaaNumA
set_option linter.unusedSimpArgs false
set_option linter.unusedVariables false
namespace Go.Proofs.Ytiafgfnefhcabaa
open Go.RowKit

/-! ### doubling bounds -/
def dbM (a b : Int) : Int := max (wrap64 (1 + 2*a + 8*b + a*a)) (wrap64 (4*(1+a+b)))
def dbQ (a b d : Int) : Int := wrap64 (4*d + 5*a*a*b + 4*a*(3*a*a*a+22*b*b) + 12*b*(a*a*a+8*b*b) + a*(5*a*a*a+32*b*b) + 2*b*(13*a*a*a+96*b*b) + 3*a*a*(a*a*a+8*b*b))
def dbK (a b d : Int) : Int := max (wrap64 (15 + 21*a + 27*b)) (dbQ a b d)
def ab (a : Int) : Int := max a (wrap64 (-a))
theorem ab_eq (a : Int) : Value.int .i64 (max a (IntKind.i64.wrap (-a))) = .int .i64 (ab a) := by rw [IntWalk.i64_left]; rfl
theorem db_q1 (a b d : Int) : 4*d + 4*a*a*b + 4*a*(3*a*a*a+22*b*b) + 12*b*(a*a*a+8*b*b) + (a*a*b + a*(5*a*a*a+32*b*b) + 2*b*(13*a*a*a+96*b*b) + 3*a*a*(a*a*a+8*b*b)) = 4*d + 5*a*a*b + 4*a*(3*a*a*a+22*b*b) + 12*b*(a*a*a+8*b*b) + a*(5*a*a*a+32*b*b) + 2*b*(13*a*a*a+96*b*b) + 3*a*a*(a*a*a+8*b*b) := by grind
theorem db_p1 (a b : Int) : 12 + 16*a + 3 + 5*a + 27*b = 15 + 21*a + 27*b := by omega
theorem db_q2 (a b d : Int) : 4*d + 5*a*a*b + 4*a*(3*a*a*a+22*b*b) + 12*b*(a*a*a+8*b*b) + (a*(5*a*a*a+32*b*b) + 2*b*(13*a*a*a+96*b*b) + 3*a*a*(a*a*a+8*b*b)) = 4*d + 5*a*a*b + 4*a*(3*a*a*a+22*b*b) + 12*b*(a*a*a+8*b*b) + a*(5*a*a*a+32*b*b) + 2*b*(13*a*a*a+96*b*b) + 3*a*a*(a*a*a+8*b*b) := by grind
def dbP (a b d : Int) : Value := .tuple #[.int .i64 (dbM a b), .int .i64 (dbK a b d)]

set_option maxRecDepth 100000 in
set_option maxHeartbeats 4000000 in
theorem doublingBounds_any (a b : Int) (w : World) : Calls Try.prog 108 #[.agg #[.int .i64 a, .int .i64 b]] w (Gives (dbP (ab a) (ab b) (ab (dsc a b))) w) := by
  go_enter Try.func108, Try.ntmps108
  go_upto_region 1 with fail
  go_cut [4, 5, 6] (fun s4 s5 s6 wx => s4 = .int .i64 (ab a) ∧ s5 = .int .i64 (ab b) ∧ s6 = .int .i64 (ab (dsc a b)) ∧ Below w.heap.size w wx ∧ w.heap.size + 1 ≤ wx.heap.size)
  case first =>
    go_region_held3 (fun w' => Below w.heap.size w w' ∧ w.heap.size + 1 ≤ w'.heap.size ∧ w'.cell? ⟨w.heap.size, 0, none⟩ = some (.int .i64 a) ∧ w'.cell? ⟨w.heap.size, 1, none⟩ = some (.int .i64 b)) (first | assumption | (refine ⟨?_, ?_, ?_, ?_⟩ <;> first | assumption | (simp only [hc0]; assumption) | (simp only [hc1]; assumption) | (simp only [hc2]; assumption) | go_size | ((repeat' (first | (with_reducible exact Below.refl _ _) | (with_reducible assumption) | (with_reducible refine Below.alloc ?_ ?_ _) | (with_reducible refine Below.setCell ?_ ?_ _) | (with_reducible refine Below.drew ?_) | (with_reducible refine below_drewN ?_ _) | (apply bthen2; (with_reducible assumption)) | go_size)); done) | (simp; done) | (simp [*]; done))) ((first | (go_at_call 107; refine (core_any _ _ _).mono ?_; rintro e w1 ⟨rfl, hb⟩; have hz := hb.size; (try simp only [World.size_alloc, World.size_setCell, World.size_drew, World.heap_drewN] at hz); try (refine keepc hb (w.heap.size) ?_ ?_; (focus (first | omega | (simp <;> omega))); intro hc0 hf0 hl0); try (refine keepc hb (w.heap.size + 1) ?_ ?_; (focus (first | omega | (simp <;> omega))); intro hc1 hf1 hl1); try (refine keepc hb (w.heap.size + 1 + 1) ?_ ?_; (focus (first | omega | (simp <;> omega))); intro hc2 hf2 hl2))))
    all_goals (go_wp2_with fail; go_meet; exact ⟨ab_eq _, ab_eq _, ab_eq _, (by repeat' (first | (with_reducible exact Below.refl _ _) | (with_reducible assumption) | (with_reducible refine Below.alloc ?_ ?_ _) | (with_reducible refine Below.setCell ?_ ?_ _) | (with_reducible refine Below.drew ?_) | (with_reducible refine below_drewN ?_ _) | (apply bthen2; (with_reducible assumption)) | go_size)), by omega⟩)
  case rest =>
    obtain ⟨rfl, rfl, rfl, hb, hz⟩ := hcut
    go_wp2
    go_ret2
    refine gives ?_ (by repeat' (first | (with_reducible exact Below.refl _ _) | (with_reducible assumption) | (with_reducible refine Below.alloc ?_ ?_ _) | (with_reducible refine Below.setCell ?_ ?_ _) | (with_reducible refine Below.drew ?_) | (with_reducible refine below_drewN ?_ _) | (apply bthen2; (with_reducible assumption)) | go_size))
    show Value.tuple #[.int .i64 _, .int .i64 _] = _
    simp only [wadd_l, wadd_r, wmul_l, wmul_r, dbP, dbM, dbK, dbQ]
    rw [db_q1, db_p1]

set_option maxRecDepth 100000 in
set_option maxHeartbeats 4000000 in
theorem htDoubling_any (a b : Int) (w : World) : Calls Try.prog 103 #[.agg #[.int .i64 a, .int .i64 b]] w (Gives (dbP (ab a) (ab b) (ab (dsc a b))) w) := by
  go_enter Try.func103, Try.ntmps103
  go_upto_region 1 with fail
  go_cut [4, 5, 6] (fun s4 s5 s6 wx => s4 = .int .i64 (ab a) ∧ s5 = .int .i64 (ab b) ∧ s6 = .int .i64 (ab (dsc a b)) ∧ Below w.heap.size w wx ∧ w.heap.size + 1 ≤ wx.heap.size)
  case first =>
    go_region_held3 (fun w' => Below w.heap.size w w' ∧ w.heap.size + 1 ≤ w'.heap.size ∧ w'.cell? ⟨w.heap.size, 0, none⟩ = some (.int .i64 a) ∧ w'.cell? ⟨w.heap.size, 1, none⟩ = some (.int .i64 b)) (first | assumption | (refine ⟨?_, ?_, ?_, ?_⟩ <;> first | assumption | (simp only [hc0]; assumption) | (simp only [hc1]; assumption) | (simp only [hc2]; assumption) | go_size | ((repeat' (first | (with_reducible exact Below.refl _ _) | (with_reducible assumption) | (with_reducible refine Below.alloc ?_ ?_ _) | (with_reducible refine Below.setCell ?_ ?_ _) | (with_reducible refine Below.drew ?_) | (with_reducible refine below_drewN ?_ _) | (apply bthen2; (with_reducible assumption)) | go_size)); done) | (simp; done) | (simp [*]; done))) ((first | (go_at_call 102; refine (ecDisc_any _ _ _).mono ?_; rintro e w1 ⟨rfl, hb⟩; have hz := hb.size; (try simp only [World.size_alloc, World.size_setCell, World.size_drew, World.heap_drewN] at hz); try (refine keepc hb (w.heap.size) ?_ ?_; (focus (first | omega | (simp <;> omega))); intro hc0 hf0 hl0); try (refine keepc hb (w.heap.size + 1) ?_ ?_; (focus (first | omega | (simp <;> omega))); intro hc1 hf1 hl1); try (refine keepc hb (w.heap.size + 1 + 1) ?_ ?_; (focus (first | omega | (simp <;> omega))); intro hc2 hf2 hl2)) | (go_at_call 120; refine (l1Abs_any _ _).mono ?_; rintro e w1 ⟨rfl, rfl⟩)))
    all_goals (go_wp2_with fail; go_meet; exact ⟨rfl, rfl, rfl, (by repeat' (first | (with_reducible exact Below.refl _ _) | (with_reducible assumption) | (with_reducible refine Below.alloc ?_ ?_ _) | (with_reducible refine Below.setCell ?_ ?_ _) | (with_reducible refine Below.drew ?_) | (with_reducible refine below_drewN ?_ _) | (apply bthen2; (with_reducible assumption)) | go_size)), by omega⟩)
  case rest =>
    obtain ⟨rfl, rfl, rfl, hb, hz⟩ := hcut
    go_wp2_with (first | (go_at_call 106; refine (l1Most_any _ _ _).mono ?_; rintro e w1 ⟨rfl, rfl⟩))
    go_ret2
    refine gives ?_ (by repeat' (first | (with_reducible exact Below.refl _ _) | (with_reducible assumption) | (with_reducible refine Below.alloc ?_ ?_ _) | (with_reducible refine Below.setCell ?_ ?_ _) | (with_reducible refine Below.drew ?_) | (with_reducible refine below_drewN ?_ _) | (apply bthen2; (with_reducible assumption)) | go_size))
    show Value.tuple #[.int .i64 _, .int .i64 _] = _
    simp only [wadd_l, wadd_r, wmul_l, wmul_r, dbP, dbM, dbK, dbQ]
    rw [db_q2]

end Go.Proofs.Ytiafgfnefhcabaa
