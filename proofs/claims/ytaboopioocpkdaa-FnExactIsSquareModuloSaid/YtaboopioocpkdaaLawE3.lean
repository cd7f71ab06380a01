import Derived.Test.YtaboopioocpkdaaLawE2
set_option linter.unusedSimpArgs false
set_option linter.unusedVariables false
namespace Go.Proofs.Ytaboopioocpkdaa
open Go.RowKit

noncomputable def ismG (n p k : Int) : Bool := rFit n p && inB k 1 (dep p)
noncomputable def ismR (n p k : Int) : Value := if ismG n p k then .tuple #[.bool (sqB (n % p ^ k.toNat) p k.toNat), .bool true] else .tuple #[.bool false, .bool false]
theorem rFit_f {n p : Int} (h : rFit n p = true) : 2 ≤ p ∧ p ≤ 997 ∧ Pr p ∧ inB n (-1000000000000) 1000000000000 = true := by
  unfold rFit at h
  simp only [Bool.and_eq_true] at h
  exact ⟨(inB_iff.1 h.1.1).1, (inB_iff.1 h.1.1).2, by have := h.1.2; unfold prB at this; simpa using this, h.2⟩
theorem IsSquareModulo_any (n p k : Int) (w : World) : Calls Try.prog 46 #[.int .i64 n, .int .i64 p, .int .i64 k] w (Gives (ismR n p k) w) := by
  have h0 : ismG n p k = false → ismR n p k = .tuple #[.bool false, .bool false] := fun h => by unfold ismR; rw [if_neg (by simp [h])]
  cases g0 : rFit n p
  · have HR := Lib.hid (h0 (by simp [ismG, g0])); clear h0
    go_enter Try.func46, Try.ntmps46
    go_wp2_with (first | (go_at_call 96; refine (residueFits_any _ _ _).mono ?_; rintro e w1 ⟨rfl, rfl⟩))
    go_ret2; exact gives HR.out.symm (by repeat' (first | (with_reducible exact Below.refl _ _) | (with_reducible assumption) | (with_reducible refine Below.alloc ?_ ?_ _) | (with_reducible refine Below.setCell ?_ ?_ _) | (with_reducible refine Below.drew ?_) | (with_reducible refine below_drewN ?_ _) | (apply bthen2; (with_reducible assumption)) | go_size))
  obtain ⟨p1, p2, p3, p4⟩ := rFit_f g0
  cases g1 : inB k 1 (dep p)
  · have HR := Lib.hid (h0 (by simp [ismG, g1])); clear h0 p3
    go_enter Try.func46, Try.ntmps46
    go_wp2_with (first | (go_at_call 96; refine (residueFits_any _ _ _).mono ?_; rintro e w1 ⟨rfl, rfl⟩) | (go_at_call 97; refine (depth_any p p1 p2 _).mono ?_; rintro e w1 ⟨rfl, rfl⟩) | (go_at_call 67; refine (inside_any _ _ _ _).mono ?_; rintro e w1 ⟨rfl, rfl⟩))
    go_ret2; exact gives HR.out.symm (by repeat' (first | (with_reducible exact Below.refl _ _) | (with_reducible assumption) | (with_reducible refine Below.alloc ?_ ?_ _) | (with_reducible refine Below.setCell ?_ ?_ _) | (with_reducible refine Below.drew ?_) | (with_reducible refine below_drewN ?_ _) | (apply bthen2; (with_reducible assumption)) | go_size))
  have k1 := inB_iff.1 g1
  obtain ⟨j, rfl⟩ := Int.eq_ofNat_of_zero_le (show 0 ≤ k by omega)
  have d := dep_pow p1 (k := j) (by omega)
  have HR := Lib.hid (show ismR n p j = .tuple #[.bool (sqB (n % p ^ j) p j), .bool true] by unfold ismR; rw [if_pos (by simp [ismG, g0, g1])]; simp); clear h0
  have HS := Lib.hid (fun w => squareModulo_any n p j p1 p2 (by omega) d.1 w)
  clear d p3 k1
  go_enter Try.func46, Try.ntmps46
  go_wp2_with (first | (go_at_call 96; refine (residueFits_any _ _ _).mono ?_; rintro e w1 ⟨rfl, rfl⟩) | (go_at_call 97; refine (depth_any p p1 p2 _).mono ?_; rintro e w1 ⟨rfl, rfl⟩) | (go_at_call 67; refine (inside_any _ _ _ _).mono ?_; rintro e w1 ⟨rfl, rfl⟩) | (go_at_call 98; refine (HS.out _).mono ?_; rintro e w1 ⟨rfl, hb⟩; have hz := hb.size; (try simp only [World.size_alloc, World.size_setCell, World.size_drew, World.heap_drewN] at hz); try (refine keepc hb (w.heap.size) ?_ ?_; (focus (first | omega | (simp <;> omega))); intro hc0 hf0 hl0); try (refine keepc hb (w.heap.size + 1) ?_ ?_; (focus (first | omega | (simp <;> omega))); intro hc1 hf1 hl1); try (refine keepc hb (w.heap.size + 1 + 1) ?_ ?_; (focus (first | omega | (simp <;> omega))); intro hc2 hf2 hl2)))
  go_ret2; exact gives HR.out.symm (by repeat' (first | (with_reducible exact Below.refl _ _) | (with_reducible assumption) | (with_reducible refine Below.alloc ?_ ?_ _) | (with_reducible refine Below.setCell ?_ ?_ _) | (with_reducible refine Below.drew ?_) | (with_reducible refine below_drewN ?_ _) | (apply bthen2; (with_reducible assumption)) | go_size))
theorem sIsSquareModulo_any (n p k : Int) (w : World) : Calls Try.prog 45 #[.int .i64 n, .int .i64 p, .int .i64 k] w (Gives (ismR n p k) w) := by
  have h0 : ismG n p k = false → ismR n p k = .tuple #[.bool false, .bool false] := fun h => by unfold ismR; rw [if_neg (by simp [h])]
  have eG : ismG n p k = (dpOf p k && inB n (-1000000000000) 1000000000000) := by
    unfold ismG rFit dpOf mdPr
    cases inB p 2 997 <;> cases prB p <;> cases inB n (-1000000000000) 1000000000000 <;> cases inB k 1 (dep p) <;> rfl
  cases g0 : dpOf p k
  · have HR := Lib.hid (h0 (by rw [eG, g0]; rfl)); clear h0 eG
    go_enter Try.func45, Try.ntmps45
    go_wp2_with (first | (go_at_call 92; refine (loDepthOf_any _ _ _).mono ?_; rintro e w1 ⟨rfl, rfl⟩))
    go_ret2; exact gives HR.out.symm (by repeat' (first | (with_reducible exact Below.refl _ _) | (with_reducible assumption) | (with_reducible refine Below.alloc ?_ ?_ _) | (with_reducible refine Below.setCell ?_ ?_ _) | (with_reducible refine Below.drew ?_) | (with_reducible refine below_drewN ?_ _) | (apply bthen2; (with_reducible assumption)) | go_size))
  cases g1 : inB n (-1000000000000) 1000000000000
  · have HR := Lib.hid (h0 (by rw [eG, g1]; simp)); clear h0 eG
    go_enter Try.func45, Try.ntmps45
    go_wp2_with (first | (go_at_call 92; refine (loDepthOf_any _ _ _).mono ?_; rintro e w1 ⟨rfl, rfl⟩) | (go_at_call 62; refine (l1In_any _ _ _ _).mono ?_; rintro e w1 ⟨rfl, rfl⟩))
    go_ret2; exact gives HR.out.symm (by repeat' (first | (with_reducible exact Below.refl _ _) | (with_reducible assumption) | (with_reducible refine Below.alloc ?_ ?_ _) | (with_reducible refine Below.setCell ?_ ?_ _) | (with_reducible refine Below.drew ?_) | (with_reducible refine below_drewN ?_ _) | (apply bthen2; (with_reducible assumption)) | go_size))
  have g0' := g0
  unfold dpOf at g0'
  rw [Bool.and_eq_true] at g0'
  obtain ⟨p1, p2, p3⟩ := mdPr_f g0'.1
  have k1 := inB_iff.1 g0'.2
  clear g0'
  obtain ⟨j, rfl⟩ := Int.eq_ofNat_of_zero_le (show 0 ≤ k by omega)
  have d := dep_pow p1 (k := j) (by omega)
  have hpos : 0 < p ^ j := Int.pow_pos (by omega)
  have HR := Lib.hid (show ismR n p j = .tuple #[.bool (sqB (n % p ^ j) p j), .bool true] by unfold ismR; rw [if_pos (by rw [eG, g0, g1]; rfl)]; simp); clear h0 eG
  have HP := Lib.hid (fun w => loPower_any p j (by omega) (by omega) (by omega) w)
  have HM := Lib.hid (fun w => mdMod_any n (p ^ j) (by omega) (by omega) w)
  have HS := Lib.hid (fun w => loSquare_any (n % p ^ j) p j p3 p2 (by omega) (Int.emod_nonneg _ (by omega)) (Int.emod_lt_of_pos _ hpos) d.1 w)
  clear d p3 k1 hpos
  generalize n % p ^ j = r at *
  generalize p ^ j = M at *
  go_enter Try.func45, Try.ntmps45
  go_wp2_with (first | (go_at_call 92; refine (loDepthOf_any _ _ _).mono ?_; rintro e w1 ⟨rfl, rfl⟩) | (go_at_call 62; refine (l1In_any _ _ _ _).mono ?_; rintro e w1 ⟨rfl, rfl⟩) | (go_at_call 95; refine (HP.out _).mono ?_; rintro e w1 ⟨rfl, rfl⟩) | (go_at_call 94; refine (HM.out _).mono ?_; rintro e w1 ⟨rfl, rfl⟩) | (go_at_call 93; refine (HS.out _).mono ?_; rintro e w1 ⟨rfl, hb⟩; have hz := hb.size; (try simp only [World.size_alloc, World.size_setCell, World.size_drew, World.heap_drewN] at hz); try (refine keepc hb (w.heap.size) ?_ ?_; (focus (first | omega | (simp <;> omega))); intro hc0 hf0 hl0); try (refine keepc hb (w.heap.size + 1) ?_ ?_; (focus (first | omega | (simp <;> omega))); intro hc1 hf1 hl1); try (refine keepc hb (w.heap.size + 1 + 1) ?_ ?_; (focus (first | omega | (simp <;> omega))); intro hc2 hf2 hl2)))
  go_ret2; exact gives HR.out.symm (by repeat' (first | (with_reducible exact Below.refl _ _) | (with_reducible assumption) | (with_reducible refine Below.alloc ?_ ?_ _) | (with_reducible refine Below.setCell ?_ ?_ _) | (with_reducible refine Below.drew ?_) | (with_reducible refine below_drewN ?_ _) | (apply bthen2; (with_reducible assumption)) | go_size))
theorem walk_FnExactIsSquareModulo (n p k : Int) (w : World) (_w0 : (Lit.int .i64 n).wf = true) (_w1 : (Lit.int .i64 p).wf = true) (_w2 : (Lit.int .i64 k).wf = true) : Calls Try.prog 12 #[.int .i64 n, .int .i64 p, .int .i64 k] w (Gives (.bool true) w) := by
  obtain ⟨r0, r1, hr⟩ : ∃ r0 r1, ismR n p k = .tuple #[.bool r0, .bool r1] := by unfold ismR; split <;> exact ⟨_, _, rfl⟩
  have h1 := fun w => IsSquareModulo_any n p k w
  have h2 := fun w => sIsSquareModulo_any n p k w
  rw [hr] at h1 h2; clear hr
  have H1 := Lib.hid h1; have H2 := Lib.hid h2; clear h1 h2
  go_enter Try.func12, Try.ntmps12
  go_wp2_with (first | (go_at_call 46; refine (H1.out _).mono ?_; rintro e w1 ⟨rfl, hb⟩; have hz := hb.size; (try simp only [World.size_alloc, World.size_setCell, World.size_drew, World.heap_drewN] at hz); try (refine keepc hb (w.heap.size) ?_ ?_; (focus (first | omega | (simp <;> omega))); intro hc0 hf0 hl0); try (refine keepc hb (w.heap.size + 1) ?_ ?_; (focus (first | omega | (simp <;> omega))); intro hc1 hf1 hl1); try (refine keepc hb (w.heap.size + 1 + 1) ?_ ?_; (focus (first | omega | (simp <;> omega))); intro hc2 hf2 hl2)) | (go_at_call 45; refine (H2.out _).mono ?_; rintro e w1 ⟨rfl, hb⟩; have hz := hb.size; (try simp only [World.size_alloc, World.size_setCell, World.size_drew, World.heap_drewN] at hz); try (refine keepc hb (w.heap.size) ?_ ?_; (focus (first | omega | (simp <;> omega))); intro hc0 hf0 hl0); try (refine keepc hb (w.heap.size + 1) ?_ ?_; (focus (first | omega | (simp <;> omega))); intro hc1 hf1 hl1); try (refine keepc hb (w.heap.size + 1 + 1) ?_ ?_; (focus (first | omega | (simp <;> omega))); intro hc2 hf2 hl2)))
  go_ret
  exact gives rfl (by repeat' (first | (with_reducible exact Below.refl _ _) | (with_reducible assumption) | (with_reducible refine Below.alloc ?_ ?_ _) | (with_reducible refine Below.setCell ?_ ?_ _) | (with_reducible refine Below.drew ?_) | (with_reducible refine below_drewN ?_ _) | (apply bthen2; (with_reducible assumption)) | go_size))

end Go.Proofs.Ytaboopioocpkdaa
