import Derived.Test.YtopdeoicglkbkaaBox
set_option linter.unusedSimpArgs false
set_option linter.unusedVariables false
namespace Go.Proofs.Ytopdeoicglkbkaa
open Go.RowKit
/-! ### the ratio of a fraction -/

set_option maxHeartbeats 1000000 in
theorem RatioOf_any (n d : Int) (w : World) : Calls Try.prog 15 #[.agg #[.int .i64 n, .int .i64 d]] w (GivesRT (isF n d) (roN n d) (roX n d) (roD n d) (roY n d) w) := by
  have HF := Lib.hid (fun w => isFraction_any n d w)
  unfold roN roX roD roY
  cases g : isF n d
  · rw [g] at HF
    go_enter Try.func15, Try.ntmps15
    go_wp2_with fail
    refine (HF.out _).mono ?_
    rintro e wa ⟨rfl, hba⟩; have hza := hba.size; (try simp only [World.size_alloc, World.size_setCell, World.size_drew, World.heap_drewN] at hza); try (refine keepc hba (w.heap.size) ?_ ?_; (focus (first | omega | (simp <;> omega))); intro hca_0 hfa_0 hla_0); try (refine keepc hba (w.heap.size + 1) ?_ ?_; (focus (first | omega | (simp <;> omega))); intro hca_1 hfa_1 hla_1); try (refine keepc hba (w.heap.size + 1 + 1) ?_ ?_; (focus (first | omega | (simp <;> omega))); intro hca_2 hfa_2 hla_2)
    go_wp2_with fail
    refine bodyPost_ret (v := .tuple #[.agg #[.bool false, .slice none 0 0, .bool false, .slice none 0 0], .bool false]) (by simp [results, Try.results15, go_sem, hca_1, hla_1]) rfl ⟨_, _, _, _, _, _, rfl, Twin.nil _ _, (by repeat' (first | (with_reducible exact Below.refl _ _) | (with_reducible assumption) | (with_reducible refine Below.alloc ?_ ?_ _) | (with_reducible refine Below.setCell ?_ ?_ _) | (with_reducible refine Below.drew ?_) | (with_reducible refine below_drewN ?_ _) | (apply bthen2; (with_reducible assumption)) | go_size))⟩
  · rw [g] at HF
    obtain ⟨r1, r2, r3, r4⟩ := isF_rng g
    have HN := Lib.hid (fun w => wholeOf_any n (by omega) (by omega) w)
    have HD := Lib.hid (fun w => wholeOf_any d (by omega) (by omega) w)
    simp only [Bool.true_and, if_true]
    generalize dg n.natAbs = X at *
    generalize dg d.natAbs = Y at *
    generalize decide (n < 0) = s1 at *
    generalize decide (d < 0) = s2 at *
    go_enter Try.func15, Try.ntmps15
    go_wp2_with fail
    refine (HF.out _).mono ?_
    rintro e wa ⟨rfl, hba⟩; have hza := hba.size; (try simp only [World.size_alloc, World.size_setCell, World.size_drew, World.heap_drewN] at hza); try (refine keepc hba (w.heap.size) ?_ ?_; (focus (first | omega | (simp <;> omega))); intro hca_0 hfa_0 hla_0); try (refine keepc hba (w.heap.size + 1) ?_ ?_; (focus (first | omega | (simp <;> omega))); intro hca_1 hfa_1 hla_1); try (refine keepc hba (w.heap.size + 1 + 1) ?_ ?_; (focus (first | omega | (simp <;> omega))); intro hca_2 hfa_2 hla_2)
    go_upto_region 3 with fail
    have hB : Below w.heap.size w wa := (by repeat' (first | (with_reducible exact Below.refl _ _) | (with_reducible assumption) | (with_reducible refine Below.alloc ?_ ?_ _) | (with_reducible refine Below.setCell ?_ ?_ _) | (with_reducible refine Below.drew ?_) | (with_reducible refine below_drewN ?_ _) | (apply bthen2; (with_reducible assumption)) | go_size))
    have c0 : wa.cell? ⟨w.heap.size, 0, none⟩ = some (.int .i64 n) := by simp [hca_0, go_sem]
    have c1 : wa.cell? ⟨w.heap.size, 1, none⟩ = some (.int .i64 d) := by simp [hca_0, go_sem]
    have hR : Box wa (w.heap.size + 1) [.bool false, .slice none 0 0, .bool false, .slice none 0 0] := box_four (by first | exact hla_1 | omega) (by simp [hca_1, go_sem]) (by simp [hca_1, go_sem]) (by simp [hca_1, go_sem]) (by simp [hca_1, go_sem]) (fun o => by simp [hfa_1, go_sem])
    clear hca_0 hca_1 hfa_0 hfa_1 hba HF
    go_region_held3 (fun w' => Below (w.heap.size + 1) wa w' ∧ w'.cell? ⟨w.heap.size, 0, none⟩ = some (.int .i64 n) ∧ w'.cell? ⟨w.heap.size, 1, none⟩ = some (.int .i64 d)) ((refine (fun hbK => And.intro hbK (by exact ⟨(hbK.cell (p := ⟨w.heap.size, 0, none⟩) (by first | assumption | omega | (simp; done) | (simp; omega))).trans c0, (hbK.cell (p := ⟨w.heap.size, 1, none⟩) (by first | assumption | omega | (simp; done) | (simp; omega))).trans c1⟩)) ?_; repeat' (first | (with_reducible exact Below.refl _ _) | (with_reducible assumption) | (with_reducible refine Below.alloc ?_ ?_ _) | (with_reducible refine Below.setCell ?_ ?_ _) | (with_reducible refine Below.drew ?_) | (with_reducible refine bthen3 (by assumption) ?_ ?_) | omega | (simp; done) | (simp; omega)))) ((first | (go_at_call_of 49 (n); refine (HN.out _).mono ?_; rintro e wf ⟨fa, fl, fc, rfl, hof, hbf⟩; have hzf := hbf.size; (try simp only [World.size_drew] at hzf); have qR := Box.below (by first | exact hR.drew | (with_reducible assumption)) hbf; have q0 := qR.2.1 0 _ rfl; have q1 := qR.2.1 1 _ rfl; have q2 := qR.2.1 2 _ rfl; have q3 := qR.2.1 3 _ rfl; have qf := qR.2.2) | (go_at_call_of 49 (d); refine (HD.out _).mono ?_; rintro e wg ⟨ga, gl, gc, rfl, hog, hbg⟩; have hzg := hbg.size; (try simp only [World.size_drew] at hzg); have qR := Box.below (by first | exact hR.drew | (with_reducible assumption)) hbg; have q0 := qR.2.1 0 _ rfl; have q1 := qR.2.1 1 _ rfl; have q2 := qR.2.1 2 _ rfl; have q3 := qR.2.1 3 _ rfl; have qf := qR.2.2)))
    all_goals
      have hq := qR.1
      go_wp2_with fail
      refine bodyPost_ret (v := .tuple #[.agg #[.bool s1, .slice fa fl fc, .bool s2, .slice ga gl gc], .bool true]) (by simp [results, Try.results15, go_sem, q0, q1, q2, q3, hq]) rfl ⟨_, _, _, _, _, _, rfl, ?_, (by repeat' (first | (with_reducible exact Below.refl _ _) | (with_reducible assumption) | (with_reducible refine Below.alloc ?_ ?_ _) | (with_reducible refine Below.setCell ?_ ?_ _) | (with_reducible refine Below.drew ?_) | (with_reducible refine below_drewN ?_ _) | (apply bthen2; (with_reducible assumption)) | go_size))⟩
      refine Twin.mono (B := wa.heap.size) ?_ (by omega)
      refine Twin.set (Twin.set (Twin.set (Twin.set ?_ (by show w.heap.size + 1 < wa.heap.size; omega) _) (by show w.heap.size + 1 < wa.heap.size; omega) _) (by show w.heap.size + 1 < wa.heap.size; omega) _) (by show w.heap.size + 1 < wa.heap.size; omega) _
      first | exact Twin.of (hof.mono (Nat.le_refl _)) (by omega) hog hbg | exact (Twin.of (hog.mono (Nat.le_refl _)) (by omega) hof hbf).swap

end Go.Proofs.Ytopdeoicglkbkaa
