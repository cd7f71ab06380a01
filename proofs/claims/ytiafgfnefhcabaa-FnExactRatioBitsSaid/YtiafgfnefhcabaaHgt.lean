import Derived.Test.YtiafgfnefhcabaaMk3
import Derived.Test.YtiafgfnefhcabaaLawB
set_option linter.unusedSimpArgs false
set_option linter.unusedVariables false
namespace Go.Proofs.Ytiafgfnefhcabaa
open Go.RowKit
/-! ### the doubling constant -/

def dbN (a b : Int) : Int := max (dbM (ab a) (ab b)) (dbK (ab a) (ab b) (ab (dsc a b)))
theorem wr_hi9 (x : Int) : wrap64 x ≤ 9223372036854775807 := by unfold wrap64; omega
theorem dbM_nonneg {a b : Int} (h : isC a b = true) : 0 ≤ dbM (ab a) (ab b) := by
  unfold isC inB at h
  simp only [Bool.and_eq_true, decide_eq_true_eq] at h
  obtain ⟨⟨⟨h1, h2⟩, h3, h4⟩, -⟩ := h
  have e1 : 0 ≤ ab a ∧ ab a ≤ 1000 := by unfold ab; rw [win (by omega)]; omega
  have e2 : 0 ≤ ab b ∧ ab b ≤ 10000 := by unfold ab; rw [win (by omega)]; omega
  generalize ab a = A at *
  generalize ab b = B at *
  have hA : 0 ≤ A * A := Int.mul_nonneg e1.1 e1.1
  have hA2 : A * A ≤ 1000 * 1000 := Int.mul_le_mul e1.2 e1.2 e1.1 (by decide)
  unfold dbM
  rw [win (n := 1 + 2 * A + 8 * B + A * A) (by omega)]
  omega
theorem dbN_rng {a b : Int} (h : isC a b = true) : 0 ≤ dbN a b ∧ dbN a b ≤ 9223372036854775807 := by
  have h1 := dbM_nonneg h
  have h2 : dbM (ab a) (ab b) ≤ 9223372036854775807 := by
    unfold dbM
    have := wr_hi9 (1 + 2 * ab a + 8 * ab b + ab a * ab a)
    have := wr_hi9 (4 * (1 + ab a + ab b))
    omega
  have h3 : dbK (ab a) (ab b) (ab (dsc a b)) ≤ 9223372036854775807 := by
    unfold dbK dbQ
    exact Int.max_le.mpr ⟨wr_hi9 _, wr_hi9 _⟩
  unfold dbN
  omega
def dbC (a b : Int) : Nat := bl (dbN a b).toNat
theorem dbC_le {a b : Int} (h : isC a b = true) : dbC a b ≤ 63 := by
  obtain ⟨h1, h2⟩ := dbN_rng h
  exact bl_le (by omega)

theorem doublingConstant_any (a b : Int) (h : isC a b = true) (w : World) : Calls Try.prog 66 #[.agg #[.int .i64 a, .int .i64 b]] w (Gives (.int .i64 (dbC a b : Nat)) w) := by
  have h0 := fun w => doublingBounds_any a b w
  unfold dbP at h0
  have H0 := Lib.hid h0; clear h0
  obtain ⟨n1, n2⟩ := dbN_rng h
  have HL := Lib.hid (fun w => Go.Proofs.Try.bits_Len (dbN a b) w n1 (by omega))
  rw [bl_lib (by omega)] at HL
  unfold dbC
  unfold dbN at *
  generalize dbM (ab a) (ab b) = M at *
  generalize dbK (ab a) (ab b) (ab (dsc a b)) = K at *
  generalize bl (max M K).toNat = R at *
  go_enter Try.func66, Try.ntmps66
  go_wp2_with (first | (go_at_call 108; refine (H0.out _).mono ?_; rintro e w1 ⟨rfl, hb⟩; have hz := hb.size; (try simp only [World.size_alloc, World.size_setCell, World.size_drew, World.heap_drewN] at hz); try (refine keepc hb (w.heap.size) ?_ ?_; (focus (first | omega | (simp <;> omega))); intro hc0 hf0 hl0); try (refine keepc hb (w.heap.size + 1) ?_ ?_; (focus (first | omega | (simp <;> omega))); intro hc1 hf1 hl1); try (refine keepc hb (w.heap.size + 1 + 1) ?_ ?_; (focus (first | omega | (simp <;> omega))); intro hc2 hf2 hl2)) | (go_at_call 91; refine (HL.out _).mono ?_; rintro e w9 ⟨rfl, rfl⟩))
  go_ret
  exact gives rfl (by repeat' (first | (with_reducible exact Below.refl _ _) | (with_reducible assumption) | (with_reducible refine Below.alloc ?_ ?_ _) | (with_reducible refine Below.setCell ?_ ?_ _) | (with_reducible refine Below.drew ?_) | (with_reducible refine below_drewN ?_ _) | (apply bthen2; (with_reducible assumption)) | go_size))

theorem htConstant_any (a b : Int) (h : isC a b = true) (w : World) : Calls Try.prog 63 #[.agg #[.int .i64 a, .int .i64 b]] w (Gives (.int .i64 (dbC a b : Nat)) w) := by
  have h0 := fun w => htDoubling_any a b w
  unfold dbP at h0
  have H0 := Lib.hid h0; clear h0
  obtain ⟨n1, n2⟩ := dbN_rng h
  have HO := Lib.hid (fun w => bgOf_any (dbN a b) (by omega) n2 w)
  rw [show (dbN a b).natAbs = (dbN a b).toNat by omega, show decide (dbN a b < 0) = false by simpa using n1] at HO
  have HBB := Lib.hid (fun sa sl sc W hW => bgBits_any false sa sl sc (dg (dbN a b).toNat) W hW (inR_dg _) (by have := dg_len (dbN a b).toNat (by omega); omega))
  rw [val_dg] at HBB
  rw [show ((dbN a b).toNat : Int).toNat = (dbN a b).toNat from rfl] at HBB
  unfold dbC
  unfold dbN at *
  generalize dbM (ab a) (ab b) = M at *
  generalize dbK (ab a) (ab b) (ab (dsc a b)) = K at *
  generalize bl (max M K).toNat = R at *
  generalize dg (max M K).toNat = D at *
  go_enter Try.func63, Try.ntmps63
  go_wp2_with (first | (go_at_call 103; refine (H0.out _).mono ?_; rintro e w1 ⟨rfl, hb⟩; have hz := hb.size; (try simp only [World.size_alloc, World.size_setCell, World.size_drew, World.heap_drewN] at hz); try (refine keepc hb (w.heap.size) ?_ ?_; (focus (first | omega | (simp <;> omega))); intro hc0 hf0 hl0); try (refine keepc hb (w.heap.size + 1) ?_ ?_; (focus (first | omega | (simp <;> omega))); intro hc1 hf1 hl1); try (refine keepc hb (w.heap.size + 1 + 1) ?_ ?_; (focus (first | omega | (simp <;> omega))); intro hc2 hf2 hl2)) | (go_at_call 106; refine (l1Most_any _ _ _).mono ?_; rintro e w1 ⟨rfl, rfl⟩))
  refine (HO.out _).mono ?_
  rintro e wb ⟨a2, len2, cap2, rfl, ho, hbb⟩
  have hzb := hbb.size; (try simp only [World.size_alloc, World.size_setCell, World.size_drew, World.heap_drewN] at hzb); try (refine keepc hbb (w.heap.size) ?_ ?_; (focus (first | omega | (simp <;> omega))); intro hcb_0 hfb_0 hlb_0); try (refine keepc hbb (w.heap.size + 1) ?_ ?_; (focus (first | omega | (simp <;> omega))); intro hcb_1 hfb_1 hlb_1); try (refine keepc hbb (w.heap.size + 1 + 1) ?_ ?_; (focus (first | omega | (simp <;> omega))); intro hcb_2 hfb_2 hlb_2)
  go_wp2_with fail
  refine (HBB.out _ _ _ _ ?_).mono ?_
  · refine Ints.below ho.ints ?_; repeat' (first | (with_reducible exact Below.refl _ _) | (with_reducible assumption) | (with_reducible refine Below.alloc ?_ ?_ _) | (with_reducible refine Below.setCell ?_ ?_ _) | (with_reducible refine Below.drew ?_) | (with_reducible refine below_drewN ?_ _) | (apply bthen2; (with_reducible assumption)) | go_size)
  rintro e wc ⟨rfl, hbc⟩; have hzc := hbc.size; (try simp only [World.size_alloc, World.size_setCell, World.size_drew, World.heap_drewN] at hzc); try (refine keepc hbc (w.heap.size) ?_ ?_; (focus (first | omega | (simp <;> omega))); intro hcc_0 hfc_0 hlc_0); try (refine keepc hbc (w.heap.size + 1) ?_ ?_; (focus (first | omega | (simp <;> omega))); intro hcc_1 hfc_1 hlc_1); try (refine keepc hbc (w.heap.size + 1 + 1) ?_ ?_; (focus (first | omega | (simp <;> omega))); intro hcc_2 hfc_2 hlc_2)
  go_wp2_with fail
  go_ret
  exact gives rfl (by repeat' (first | (with_reducible exact Below.refl _ _) | (with_reducible assumption) | (with_reducible refine Below.alloc ?_ ?_ _) | (with_reducible refine Below.setCell ?_ ?_ _) | (with_reducible refine Below.drew ?_) | (with_reducible refine below_drewN ?_ _) | (apply bthen2; (with_reducible assumption)) | go_size))

end Go.Proofs.Ytiafgfnefhcabaa
