import Derived.Test.YtfcfjlfobflmaaaDoorNumA
set_option linter.unusedSimpArgs false
set_option linter.unusedVariables false
namespace Go.Proofs.YtfcfjlfobflmaaaDoor
open Go.RowKit

/-! ### doubling bounds -/
def dbM (a b : Int) : Int := max (wrap64 (1 + 2*a + 8*b + a*a)) (wrap64 (4*(1+a+b)))
def dbQ (a b d : Int) : Int := wrap64 (4*d + 5*a*a*b + 4*a*(3*a*a*a+22*b*b) + 12*b*(a*a*a+8*b*b) + a*(5*a*a*a+32*b*b) + 2*b*(13*a*a*a+96*b*b) + 3*a*a*(a*a*a+8*b*b))
def dbK (a b d : Int) : Int := max (wrap64 (15 + 21*a + 27*b)) (dbQ a b d)
def ab (a : Int) : Int := max a (wrap64 (-a))
theorem ab_eq (a : Int) : Value.int .i64 (max a (IntKind.i64.wrap (-a))) = .int .i64 (ab a) := by rw [IntWalk.i64_left]; rfl
theorem db_q1 (a b d : Int) : 4*d + 4*a*a*b + 4*a*(3*a*a*a+22*b*b) + 12*b*(a*a*a+8*b*b) + (a*a*b + a*(5*a*a*a+32*b*b) + 2*b*(13*a*a*a+96*b*b) + 3*a*a*(a*a*a+8*b*b)) = 4*d + 5*a*a*b + 4*a*(3*a*a*a+22*b*b) + 12*b*(a*a*a+8*b*b) + a*(5*a*a*a+32*b*b) + 2*b*(13*a*a*a+96*b*b) + 3*a*a*(a*a*a+8*b*b) := by grind
theorem db_p1 (a b : Int) : 12 + 16*a + 3 + 5*a + 27*b = 15 + 21*a + 27*b := by omega
theorem db_q2 (a b d : Int) : 4*d + 5*a*a*b + 4*a*(3*a*a*a+22*b*b) + 12*b*(a*a*a+8*b*b) + (a*(5*a*a*a+32*b*b) + 2*b*(13*a*a*a+96*b*b) + 3*a*a*(a*a*a+8*b*b)) = 4*d + 5*a*a*b + 4*a*(3*a*a*a+22*b*b) + 12*b*(a*a*a+8*b*b) + a*(5*a*a*a+32*b*b) + 2*b*(13*a*a*a+96*b*b) + 3*a*a*(a*a*a+8*b*b) := by grind
def dbP (a b d : Int) : Value := .tuple #[.int .i64 (dbM a b), .int .i64 (dbK a b d)]

set_option maxRecDepth 100000 in
set_option maxHeartbeats 4000000 in
theorem doublingBounds_any (a b : Int) (w : World) : Calls Tryd.prog 30 #[.agg #[.int .i64 a, .int .i64 b]] w (Gives (dbP (ab a) (ab b) (ab (dsc a b))) w) := by
  go_enter Tryd.func30, Tryd.ntmps30
  go_upto_region 1 with fail
  go_cut [4, 5, 6] (fun s4 s5 s6 wx => s4 = .int .i64 (ab a) ∧ s5 = .int .i64 (ab b) ∧ s6 = .int .i64 (ab (dsc a b)) ∧ Below w.heap.size w wx ∧ w.heap.size + 1 ≤ wx.heap.size)
  case first =>
    go_region_held3 (fun w' => Below w.heap.size w w' ∧ w.heap.size + 1 ≤ w'.heap.size ∧ w'.cell? ⟨w.heap.size, 0, none⟩ = some (.int .i64 a) ∧ w'.cell? ⟨w.heap.size, 1, none⟩ = some (.int .i64 b)) (first | assumption | (refine ⟨?_, ?_, ?_, ?_⟩ <;> first | assumption | (simp only [hc0]; assumption) | (simp only [hc1]; assumption) | (simp only [hc2]; assumption) | go_size | ((repeat' (first | (with_reducible exact Below.refl _ _) | (with_reducible assumption) | (with_reducible refine Below.alloc ?_ ?_ _) | (with_reducible refine Below.setCell ?_ ?_ _) | (with_reducible refine Below.drew ?_) | (with_reducible refine below_drewN ?_ _) | (apply bthen2; (with_reducible assumption)) | go_size)); done) | (simp; done) | (simp [*]; done))) ((first | (go_at_call 44; refine (core_any _ _ _).mono ?_; rintro e w1 ⟨rfl, hb⟩; have hz := hb.size; (try simp only [World.size_alloc, World.size_setCell, World.size_drew, World.heap_drewN] at hz); try (refine keepc hb (w.heap.size) ?_ ?_; (focus (first | omega | (simp <;> omega))); intro hc0 hf0 hl0); try (refine keepc hb (w.heap.size + 1) ?_ ?_; (focus (first | omega | (simp <;> omega))); intro hc1 hf1 hl1); try (refine keepc hb (w.heap.size + 1 + 1) ?_ ?_; (focus (first | omega | (simp <;> omega))); intro hc2 hf2 hl2))))
    all_goals (go_wp2_with fail; go_meet; exact ⟨ab_eq _, ab_eq _, ab_eq _, (by repeat' (first | (with_reducible exact Below.refl _ _) | (with_reducible assumption) | (with_reducible refine Below.alloc ?_ ?_ _) | (with_reducible refine Below.setCell ?_ ?_ _) | (with_reducible refine Below.drew ?_) | (with_reducible refine below_drewN ?_ _) | (apply bthen2; (with_reducible assumption)) | go_size)), by omega⟩)
  case rest =>
    obtain ⟨rfl, rfl, rfl, hb, hz⟩ := hcut
    go_wp2
    go_ret2
    refine gives ?_ (by repeat' (first | (with_reducible exact Below.refl _ _) | (with_reducible assumption) | (with_reducible refine Below.alloc ?_ ?_ _) | (with_reducible refine Below.setCell ?_ ?_ _) | (with_reducible refine Below.drew ?_) | (with_reducible refine below_drewN ?_ _) | (apply bthen2; (with_reducible assumption)) | go_size))
    show Value.tuple #[.int .i64 _, .int .i64 _] = _
    simp only [wadd_l, wadd_r, wmul_l, wmul_r, dbP, dbM, dbK, dbQ]
    rw [db_q1, db_p1]

set_option maxRecDepth 100000 in
set_option maxHeartbeats 4000000 in
theorem htDoubling_any (a b : Int) (w : World) : Calls Tryd.prog 31 #[.agg #[.int .i64 a, .int .i64 b]] w (Gives (dbP (ab a) (ab b) (ab (dsc a b))) w) := by
  go_enter Tryd.func31, Tryd.ntmps31
  go_upto_region 1 with fail
  go_cut [4, 5, 6] (fun s4 s5 s6 wx => s4 = .int .i64 (ab a) ∧ s5 = .int .i64 (ab b) ∧ s6 = .int .i64 (ab (dsc a b)) ∧ Below w.heap.size w wx ∧ w.heap.size + 1 ≤ wx.heap.size)
  case first =>
    go_region_held3 (fun w' => Below w.heap.size w w' ∧ w.heap.size + 1 ≤ w'.heap.size ∧ w'.cell? ⟨w.heap.size, 0, none⟩ = some (.int .i64 a) ∧ w'.cell? ⟨w.heap.size, 1, none⟩ = some (.int .i64 b)) (first | assumption | (refine ⟨?_, ?_, ?_, ?_⟩ <;> first | assumption | (simp only [hc0]; assumption) | (simp only [hc1]; assumption) | (simp only [hc2]; assumption) | go_size | ((repeat' (first | (with_reducible exact Below.refl _ _) | (with_reducible assumption) | (with_reducible refine Below.alloc ?_ ?_ _) | (with_reducible refine Below.setCell ?_ ?_ _) | (with_reducible refine Below.drew ?_) | (with_reducible refine below_drewN ?_ _) | (apply bthen2; (with_reducible assumption)) | go_size)); done) | (simp; done) | (simp [*]; done))) ((first | (go_at_call 45; refine (ecDisc_any _ _ _).mono ?_; rintro e w1 ⟨rfl, hb⟩; have hz := hb.size; (try simp only [World.size_alloc, World.size_setCell, World.size_drew, World.heap_drewN] at hz); try (refine keepc hb (w.heap.size) ?_ ?_; (focus (first | omega | (simp <;> omega))); intro hc0 hf0 hl0); try (refine keepc hb (w.heap.size + 1) ?_ ?_; (focus (first | omega | (simp <;> omega))); intro hc1 hf1 hl1); try (refine keepc hb (w.heap.size + 1 + 1) ?_ ?_; (focus (first | omega | (simp <;> omega))); intro hc2 hf2 hl2)) | (go_at_call 48; refine (l1Abs_any _ _).mono ?_; rintro e w1 ⟨rfl, rfl⟩)))
    all_goals (go_wp2_with fail; go_meet; exact ⟨rfl, rfl, rfl, (by repeat' (first | (with_reducible exact Below.refl _ _) | (with_reducible assumption) | (with_reducible refine Below.alloc ?_ ?_ _) | (with_reducible refine Below.setCell ?_ ?_ _) | (with_reducible refine Below.drew ?_) | (with_reducible refine below_drewN ?_ _) | (apply bthen2; (with_reducible assumption)) | go_size)), by omega⟩)
  case rest =>
    obtain ⟨rfl, rfl, rfl, hb, hz⟩ := hcut
    go_wp2_with (first | (go_at_call 47; refine (l1Most_any _ _ _).mono ?_; rintro e w1 ⟨rfl, rfl⟩))
    go_ret2
    refine gives ?_ (by repeat' (first | (with_reducible exact Below.refl _ _) | (with_reducible assumption) | (with_reducible refine Below.alloc ?_ ?_ _) | (with_reducible refine Below.setCell ?_ ?_ _) | (with_reducible refine Below.drew ?_) | (with_reducible refine below_drewN ?_ _) | (apply bthen2; (with_reducible assumption)) | go_size))
    show Value.tuple #[.int .i64 _, .int .i64 _] = _
    simp only [wadd_l, wadd_r, wmul_l, wmul_r, dbP, dbM, dbK, dbQ]
    rw [db_q2]

def dbF (a b : Int) : Value := if isC a b then .tuple #[.int .i64 (dbM (ab a) (ab b)), .int .i64 (dbK (ab a) (ab b) (ab (dsc a b))), .bool true] else .tuple #[.int .i64 0, .int .i64 0, .bool false]
theorem DoublingBounds_any (a b : Int) (w : World) : Calls Tryd.prog 8 #[.agg #[.int .i64 a, .int .i64 b]] w (Gives (dbF a b) w) := by
  have h0 := fun w => doublingBounds_any a b w
  unfold dbP at h0
  have H0 := Lib.hid h0; clear h0
  cases g0 : isC a b
  all_goals
    go_enter Tryd.func8, Tryd.ntmps8
    go_wp2_with (first | (go_at_call 24; refine (isCurve_any _ _ _).mono ?_; rintro e w1 ⟨rfl, hb⟩; have hz := hb.size; (try simp only [World.size_alloc, World.size_setCell, World.size_drew, World.heap_drewN] at hz); try (refine keepc hb (w.heap.size) ?_ ?_; (focus (first | omega | (simp <;> omega))); intro hc0 hf0 hl0); try (refine keepc hb (w.heap.size + 1) ?_ ?_; (focus (first | omega | (simp <;> omega))); intro hc1 hf1 hl1); try (refine keepc hb (w.heap.size + 1 + 1) ?_ ?_; (focus (first | omega | (simp <;> omega))); intro hc2 hf2 hl2)) | (go_at_call 30; refine (H0.out _).mono ?_; rintro e w1 ⟨rfl, hb⟩; have hz := hb.size; (try simp only [World.size_alloc, World.size_setCell, World.size_drew, World.heap_drewN] at hz); try (refine keepc hb (w.heap.size) ?_ ?_; (focus (first | omega | (simp <;> omega))); intro hc0 hf0 hl0); try (refine keepc hb (w.heap.size + 1) ?_ ?_; (focus (first | omega | (simp <;> omega))); intro hc1 hf1 hl1); try (refine keepc hb (w.heap.size + 1 + 1) ?_ ?_; (focus (first | omega | (simp <;> omega))); intro hc2 hf2 hl2)))
    go_ret3; exact gives (by simp [dbF, g0]) (by repeat' (first | (with_reducible exact Below.refl _ _) | (with_reducible assumption) | (with_reducible refine Below.alloc ?_ ?_ _) | (with_reducible refine Below.setCell ?_ ?_ _) | (with_reducible refine Below.drew ?_) | (with_reducible refine below_drewN ?_ _) | (apply bthen2; (with_reducible assumption)) | go_size))
theorem sDoublingBounds_any (a b : Int) (w : World) : Calls Tryd.prog 9 #[.agg #[.int .i64 a, .int .i64 b]] w (Gives (dbF a b) w) := by
  have h0 := fun w => htDoubling_any a b w
  unfold dbP at h0
  have H0 := Lib.hid h0; clear h0
  cases g0 : isC a b
  all_goals
    go_enter Tryd.func9, Tryd.ntmps9
    go_wp2_with (first | (go_at_call 27; refine (ecGood_any _ _ _).mono ?_; rintro e w1 ⟨rfl, hb⟩; have hz := hb.size; (try simp only [World.size_alloc, World.size_setCell, World.size_drew, World.heap_drewN] at hz); try (refine keepc hb (w.heap.size) ?_ ?_; (focus (first | omega | (simp <;> omega))); intro hc0 hf0 hl0); try (refine keepc hb (w.heap.size + 1) ?_ ?_; (focus (first | omega | (simp <;> omega))); intro hc1 hf1 hl1); try (refine keepc hb (w.heap.size + 1 + 1) ?_ ?_; (focus (first | omega | (simp <;> omega))); intro hc2 hf2 hl2)) | (go_at_call 31; refine (H0.out _).mono ?_; rintro e w1 ⟨rfl, hb⟩; have hz := hb.size; (try simp only [World.size_alloc, World.size_setCell, World.size_drew, World.heap_drewN] at hz); try (refine keepc hb (w.heap.size) ?_ ?_; (focus (first | omega | (simp <;> omega))); intro hc0 hf0 hl0); try (refine keepc hb (w.heap.size + 1) ?_ ?_; (focus (first | omega | (simp <;> omega))); intro hc1 hf1 hl1); try (refine keepc hb (w.heap.size + 1 + 1) ?_ ?_; (focus (first | omega | (simp <;> omega))); intro hc2 hf2 hl2)))
    go_ret3; exact gives (by simp [dbF, g0]) (by repeat' (first | (with_reducible exact Below.refl _ _) | (with_reducible assumption) | (with_reducible refine Below.alloc ?_ ?_ _) | (with_reducible refine Below.setCell ?_ ?_ _) | (with_reducible refine Below.drew ?_) | (with_reducible refine below_drewN ?_ _) | (apply bthen2; (with_reducible assumption)) | go_size))

end Go.Proofs.YtfcfjlfobflmaaaDoor
