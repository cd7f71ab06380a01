import Derived.Test.YtfcfjlfobflmaaaDoorMk3
import Derived.Test.YtfcfjlfobflmaaaDoorLawB
set_option linter.unusedSimpArgs false
set_option linter.unusedVariables false
namespace Go.Proofs.YtfcfjlfobflmaaaDoor
open Go.RowKit
/-! ### the doubling constant -/

def dbN (a b : Int) : Int := max (dbM (ab a) (ab b)) (dbK (ab a) (ab b) (ab (dsc a b)))
theorem wr_hi9 (x : Int) : wrap64 x ≤ 9223372036854775807 := by unfold wrap64; omega
theorem dbM_nonneg {a b : Int} (h : isC a b = true) : 0 ≤ dbM (ab a) (ab b) := by
  unfold isC inB at h
  simp only [Bool.and_eq_true, decide_eq_true_eq] at h
  obtain ⟨⟨⟨h1, h2⟩, h3, h4⟩, -⟩ := h
  have e1 : 0 ≤ ab a ∧ ab a ≤ 1000 := by unfold ab; rw [win (by omega)]; omega
  have e2 : 0 ≤ ab b ∧ ab b ≤ 10000 := by unfold ab; rw [win (by omega)]; omega
  generalize ab a = A at *
  generalize ab b = B at *
  have hA : 0 ≤ A * A := Int.mul_nonneg e1.1 e1.1
  have hA2 : A * A ≤ 1000 * 1000 := Int.mul_le_mul e1.2 e1.2 e1.1 (by decide)
  unfold dbM
  rw [win (n := 1 + 2 * A + 8 * B + A * A) (by omega)]
  omega
theorem dbN_rng {a b : Int} (h : isC a b = true) : 0 ≤ dbN a b ∧ dbN a b ≤ 9223372036854775807 := by
  have h1 := dbM_nonneg h
  have h2 : dbM (ab a) (ab b) ≤ 9223372036854775807 := by
    unfold dbM
    have := wr_hi9 (1 + 2 * ab a + 8 * ab b + ab a * ab a)
    have := wr_hi9 (4 * (1 + ab a + ab b))
    omega
  have h3 : dbK (ab a) (ab b) (ab (dsc a b)) ≤ 9223372036854775807 := by
    unfold dbK dbQ
    exact Int.max_le.mpr ⟨wr_hi9 _, wr_hi9 _⟩
  unfold dbN
  omega
def dbC (a b : Int) : Nat := bl (dbN a b).toNat
theorem dbC_le {a b : Int} (h : isC a b = true) : dbC a b ≤ 63 := by
  obtain ⟨h1, h2⟩ := dbN_rng h
  exact bl_le (by omega)

theorem doublingConstant_any (a b : Int) (h : isC a b = true) (w : World) : Calls Tryd.prog 26 #[.agg #[.int .i64 a, .int .i64 b]] w (Gives (.int .i64 (dbC a b : Nat)) w) := by
  have h0 := fun w => doublingBounds_any a b w
  unfold dbP at h0
  have H0 := Lib.hid h0; clear h0
  obtain ⟨n1, n2⟩ := dbN_rng h
  have HL := Lib.hid (fun w => Go.Proofs.Tryd.bits_Len (dbN a b) w n1 (by omega))
  rw [bl_lib (by omega)] at HL
  unfold dbC
  unfold dbN at *
  generalize dbM (ab a) (ab b) = M at *
  generalize dbK (ab a) (ab b) (ab (dsc a b)) = K at *
  generalize bl (max M K).toNat = R at *
  go_enter Tryd.func26, Tryd.ntmps26
  go_wp2_with (first | (go_at_call 30; refine (H0.out _).mono ?_; rintro e w1 ⟨rfl, hb⟩; have hz := hb.size; (try simp only [World.size_alloc, World.size_setCell, World.size_drew, World.heap_drewN] at hz); try (refine keepc hb (w.heap.size) ?_ ?_; (focus (first | omega | (simp <;> omega))); intro hc0 hf0 hl0); try (refine keepc hb (w.heap.size + 1) ?_ ?_; (focus (first | omega | (simp <;> omega))); intro hc1 hf1 hl1); try (refine keepc hb (w.heap.size + 1 + 1) ?_ ?_; (focus (first | omega | (simp <;> omega))); intro hc2 hf2 hl2)) | (go_at_call 33; refine (HL.out _).mono ?_; rintro e w9 ⟨rfl, rfl⟩))
  go_ret
  exact gives rfl (by repeat' (first | (with_reducible exact Below.refl _ _) | (with_reducible assumption) | (with_reducible refine Below.alloc ?_ ?_ _) | (with_reducible refine Below.setCell ?_ ?_ _) | (with_reducible refine Below.drew ?_) | (with_reducible refine below_drewN ?_ _) | (apply bthen2; (with_reducible assumption)) | go_size))

theorem htConstant_any (a b : Int) (h : isC a b = true) (w : World) : Calls Tryd.prog 29 #[.agg #[.int .i64 a, .int .i64 b]] w (Gives (.int .i64 (dbC a b : Nat)) w) := by
  have h0 := fun w => htDoubling_any a b w
  unfold dbP at h0
  have H0 := Lib.hid h0; clear h0
  obtain ⟨n1, n2⟩ := dbN_rng h
  have HO := Lib.hid (fun w => bgOf_any (dbN a b) (by omega) n2 w)
  rw [show (dbN a b).natAbs = (dbN a b).toNat by omega, show decide (dbN a b < 0) = false by simpa using n1] at HO
  have HBB := Lib.hid (fun sa sl sc W hW => bgBits_any false sa sl sc (dg (dbN a b).toNat) W hW (inR_dg _) (by have := dg_len (dbN a b).toNat (by omega); omega))
  rw [val_dg] at HBB
  rw [show ((dbN a b).toNat : Int).toNat = (dbN a b).toNat from rfl] at HBB
  unfold dbC
  unfold dbN at *
  generalize dbM (ab a) (ab b) = M at *
  generalize dbK (ab a) (ab b) (ab (dsc a b)) = K at *
  generalize bl (max M K).toNat = R at *
  generalize dg (max M K).toNat = D at *
  go_enter Tryd.func29, Tryd.ntmps29
  go_wp2_with (first | (go_at_call 31; refine (H0.out _).mono ?_; rintro e w1 ⟨rfl, hb⟩; have hz := hb.size; (try simp only [World.size_alloc, World.size_setCell, World.size_drew, World.heap_drewN] at hz); try (refine keepc hb (w.heap.size) ?_ ?_; (focus (first | omega | (simp <;> omega))); intro hc0 hf0 hl0); try (refine keepc hb (w.heap.size + 1) ?_ ?_; (focus (first | omega | (simp <;> omega))); intro hc1 hf1 hl1); try (refine keepc hb (w.heap.size + 1 + 1) ?_ ?_; (focus (first | omega | (simp <;> omega))); intro hc2 hf2 hl2)) | (go_at_call 47; refine (l1Most_any _ _ _).mono ?_; rintro e w1 ⟨rfl, rfl⟩))
  refine (HO.out _).mono ?_
  rintro e wb ⟨a2, len2, cap2, rfl, ho, hbb⟩
  have hzb := hbb.size; (try simp only [World.size_alloc, World.size_setCell, World.size_drew, World.heap_drewN] at hzb); try (refine keepc hbb (w.heap.size) ?_ ?_; (focus (first | omega | (simp <;> omega))); intro hcb_0 hfb_0 hlb_0); try (refine keepc hbb (w.heap.size + 1) ?_ ?_; (focus (first | omega | (simp <;> omega))); intro hcb_1 hfb_1 hlb_1); try (refine keepc hbb (w.heap.size + 1 + 1) ?_ ?_; (focus (first | omega | (simp <;> omega))); intro hcb_2 hfb_2 hlb_2)
  go_wp2_with fail
  refine (HBB.out _ _ _ _ ?_).mono ?_
  · refine Ints.below ho.ints ?_; repeat' (first | (with_reducible exact Below.refl _ _) | (with_reducible assumption) | (with_reducible refine Below.alloc ?_ ?_ _) | (with_reducible refine Below.setCell ?_ ?_ _) | (with_reducible refine Below.drew ?_) | (with_reducible refine below_drewN ?_ _) | (apply bthen2; (with_reducible assumption)) | go_size)
  rintro e wc ⟨rfl, hbc⟩; have hzc := hbc.size; (try simp only [World.size_alloc, World.size_setCell, World.size_drew, World.heap_drewN] at hzc); try (refine keepc hbc (w.heap.size) ?_ ?_; (focus (first | omega | (simp <;> omega))); intro hcc_0 hfc_0 hlc_0); try (refine keepc hbc (w.heap.size + 1) ?_ ?_; (focus (first | omega | (simp <;> omega))); intro hcc_1 hfc_1 hlc_1); try (refine keepc hbc (w.heap.size + 1 + 1) ?_ ?_; (focus (first | omega | (simp <;> omega))); intro hcc_2 hfc_2 hlc_2)
  go_wp2_with fail
  go_ret
  exact gives rfl (by repeat' (first | (with_reducible exact Below.refl _ _) | (with_reducible assumption) | (with_reducible refine Below.alloc ?_ ?_ _) | (with_reducible refine Below.setCell ?_ ?_ _) | (with_reducible refine Below.drew ?_) | (with_reducible refine below_drewN ?_ _) | (apply bthen2; (with_reducible assumption)) | go_size))

def dcF (a b : Int) : Value := if isC a b then .tuple #[.int .i64 (dbC a b : Nat), .bool true] else .tuple #[.int .i64 0, .bool false]
theorem DoublingConstant_any (a b : Int) (w : World) : Calls Tryd.prog 10 #[.agg #[.int .i64 a, .int .i64 b]] w (Gives (dcF a b) w) := by
  have e : dcF a b = if isC a b then .tuple #[.int .i64 (dbC a b : Nat), .bool true] else .tuple #[.int .i64 0, .bool false] := rfl
  rw [e]
  cases g0 : isC a b
  · go_enter Tryd.func10, Tryd.ntmps10
    go_wp2_with (first | (go_at_call 24; refine (isCurve_any _ _ _).mono ?_; rintro e w1 ⟨rfl, hb⟩; have hz := hb.size; (try simp only [World.size_alloc, World.size_setCell, World.size_drew, World.heap_drewN] at hz); try (refine keepc hb (w.heap.size) ?_ ?_; (focus (first | omega | (simp <;> omega))); intro hc0 hf0 hl0); try (refine keepc hb (w.heap.size + 1) ?_ ?_; (focus (first | omega | (simp <;> omega))); intro hc1 hf1 hl1); try (refine keepc hb (w.heap.size + 1 + 1) ?_ ?_; (focus (first | omega | (simp <;> omega))); intro hc2 hf2 hl2)))
    go_ret2; exact gives rfl (by repeat' (first | (with_reducible exact Below.refl _ _) | (with_reducible assumption) | (with_reducible refine Below.alloc ?_ ?_ _) | (with_reducible refine Below.setCell ?_ ?_ _) | (with_reducible refine Below.drew ?_) | (with_reducible refine below_drewN ?_ _) | (apply bthen2; (with_reducible assumption)) | go_size))
  · have H0 := Lib.hid (fun w => doublingConstant_any a b g0 w)
    generalize dbC a b = C at *
    go_enter Tryd.func10, Tryd.ntmps10
    go_wp2_with (first | (go_at_call 24; refine (isCurve_any _ _ _).mono ?_; rintro e w1 ⟨rfl, hb⟩; have hz := hb.size; (try simp only [World.size_alloc, World.size_setCell, World.size_drew, World.heap_drewN] at hz); try (refine keepc hb (w.heap.size) ?_ ?_; (focus (first | omega | (simp <;> omega))); intro hc0 hf0 hl0); try (refine keepc hb (w.heap.size + 1) ?_ ?_; (focus (first | omega | (simp <;> omega))); intro hc1 hf1 hl1); try (refine keepc hb (w.heap.size + 1 + 1) ?_ ?_; (focus (first | omega | (simp <;> omega))); intro hc2 hf2 hl2)) | (go_at_call 26; refine (H0.out _).mono ?_; rintro e w1 ⟨rfl, hb⟩; have hz := hb.size; (try simp only [World.size_alloc, World.size_setCell, World.size_drew, World.heap_drewN] at hz); try (refine keepc hb (w.heap.size) ?_ ?_; (focus (first | omega | (simp <;> omega))); intro hc0 hf0 hl0); try (refine keepc hb (w.heap.size + 1) ?_ ?_; (focus (first | omega | (simp <;> omega))); intro hc1 hf1 hl1); try (refine keepc hb (w.heap.size + 1 + 1) ?_ ?_; (focus (first | omega | (simp <;> omega))); intro hc2 hf2 hl2)))
    go_ret2; exact gives rfl (by repeat' (first | (with_reducible exact Below.refl _ _) | (with_reducible assumption) | (with_reducible refine Below.alloc ?_ ?_ _) | (with_reducible refine Below.setCell ?_ ?_ _) | (with_reducible refine Below.drew ?_) | (with_reducible refine below_drewN ?_ _) | (apply bthen2; (with_reducible assumption)) | go_size))
theorem sDoublingConstant_any (a b : Int) (w : World) : Calls Tryd.prog 11 #[.agg #[.int .i64 a, .int .i64 b]] w (Gives (dcF a b) w) := by
  have e : dcF a b = if isC a b then .tuple #[.int .i64 (dbC a b : Nat), .bool true] else .tuple #[.int .i64 0, .bool false] := rfl
  rw [e]
  cases g0 : isC a b
  · go_enter Tryd.func11, Tryd.ntmps11
    go_wp2_with (first | (go_at_call 27; refine (ecGood_any _ _ _).mono ?_; rintro e w1 ⟨rfl, hb⟩; have hz := hb.size; (try simp only [World.size_alloc, World.size_setCell, World.size_drew, World.heap_drewN] at hz); try (refine keepc hb (w.heap.size) ?_ ?_; (focus (first | omega | (simp <;> omega))); intro hc0 hf0 hl0); try (refine keepc hb (w.heap.size + 1) ?_ ?_; (focus (first | omega | (simp <;> omega))); intro hc1 hf1 hl1); try (refine keepc hb (w.heap.size + 1 + 1) ?_ ?_; (focus (first | omega | (simp <;> omega))); intro hc2 hf2 hl2)))
    go_ret2; exact gives rfl (by repeat' (first | (with_reducible exact Below.refl _ _) | (with_reducible assumption) | (with_reducible refine Below.alloc ?_ ?_ _) | (with_reducible refine Below.setCell ?_ ?_ _) | (with_reducible refine Below.drew ?_) | (with_reducible refine below_drewN ?_ _) | (apply bthen2; (with_reducible assumption)) | go_size))
  · have H0 := Lib.hid (fun w => htConstant_any a b g0 w)
    generalize dbC a b = C at *
    go_enter Tryd.func11, Tryd.ntmps11
    go_wp2_with (first | (go_at_call 27; refine (ecGood_any _ _ _).mono ?_; rintro e w1 ⟨rfl, hb⟩; have hz := hb.size; (try simp only [World.size_alloc, World.size_setCell, World.size_drew, World.heap_drewN] at hz); try (refine keepc hb (w.heap.size) ?_ ?_; (focus (first | omega | (simp <;> omega))); intro hc0 hf0 hl0); try (refine keepc hb (w.heap.size + 1) ?_ ?_; (focus (first | omega | (simp <;> omega))); intro hc1 hf1 hl1); try (refine keepc hb (w.heap.size + 1 + 1) ?_ ?_; (focus (first | omega | (simp <;> omega))); intro hc2 hf2 hl2)) | (go_at_call 29; refine (H0.out _).mono ?_; rintro e w1 ⟨rfl, hb⟩; have hz := hb.size; (try simp only [World.size_alloc, World.size_setCell, World.size_drew, World.heap_drewN] at hz); try (refine keepc hb (w.heap.size) ?_ ?_; (focus (first | omega | (simp <;> omega))); intro hc0 hf0 hl0); try (refine keepc hb (w.heap.size + 1) ?_ ?_; (focus (first | omega | (simp <;> omega))); intro hc1 hf1 hl1); try (refine keepc hb (w.heap.size + 1 + 1) ?_ ?_; (focus (first | omega | (simp <;> omega))); intro hc2 hf2 hl2)))
    go_ret2; exact gives rfl (by repeat' (first | (with_reducible exact Below.refl _ _) | (with_reducible assumption) | (with_reducible refine Below.alloc ?_ ?_ _) | (with_reducible refine Below.setCell ?_ ?_ _) | (with_reducible refine Below.drew ?_) | (with_reducible refine below_drewN ?_ _) | (apply bthen2; (with_reducible assumption)) | go_size))

def hwF (a b k : Int) : Value := if isC a b && inB k 1 6000 then .tuple #[.int .i64 (4 * k - 3 - (dbC a b : Nat)), .int .i64 (4 * k + (dbC a b : Nat)), .bool true] else .tuple #[.int .i64 0, .int .i64 0, .bool false]
theorem hw_0 {a b k : Int} (h : isC a b = false) : hwF a b k = .tuple #[.int .i64 0, .int .i64 0, .bool false] := by unfold hwF; rw [h]; rfl
theorem hw_1 {a b k : Int} (h : inB k 1 6000 = false) : hwF a b k = .tuple #[.int .i64 0, .int .i64 0, .bool false] := by unfold hwF; rw [h, Bool.and_false]; rfl
theorem hw_2 {a b k : Int} (h : isC a b = true) (h2 : inB k 1 6000 = true) : hwF a b k = .tuple #[.int .i64 (4 * k - 3 - (dbC a b : Nat)), .int .i64 (4 * k + (dbC a b : Nat)), .bool true] := by unfold hwF; rw [h, h2]; rfl
theorem iw9 {x : Int} (h : -9223372036854775808 ≤ x ∧ x ≤ 9223372036854775807) : IntKind.i64.wrap x = x := by rw [IntWalk.i64_left]; exact win (by omega)
theorem inB_f {n lo hi : Int} (h : inB n lo hi = true) : lo ≤ n ∧ n ≤ hi := by
  unfold inB at h
  simpa using h
set_option maxHeartbeats 1000000 in
theorem HeightWindow_any (a b k : Int) (w : World) : Calls Tryd.prog 6 #[.agg #[.int .i64 a, .int .i64 b], .int .i64 k] w (Gives (hwF a b k) w) := by
  cases g0 : isC a b
  · rw [hw_0 g0]
    go_enter Tryd.func6, Tryd.ntmps6
    go_wp2_with (first | (go_at_call 24; refine (isCurve_any _ _ _).mono ?_; rintro e w1 ⟨rfl, hb⟩; have hz := hb.size; (try simp only [World.size_alloc, World.size_setCell, World.size_drew, World.heap_drewN] at hz); try (refine keepc hb (w.heap.size) ?_ ?_; (focus (first | omega | (simp <;> omega))); intro hc0 hf0 hl0); try (refine keepc hb (w.heap.size + 1) ?_ ?_; (focus (first | omega | (simp <;> omega))); intro hc1 hf1 hl1); try (refine keepc hb (w.heap.size + 1 + 1) ?_ ?_; (focus (first | omega | (simp <;> omega))); intro hc2 hf2 hl2)))
    go_ret3; exact gives rfl (by repeat' (first | (with_reducible exact Below.refl _ _) | (with_reducible assumption) | (with_reducible refine Below.alloc ?_ ?_ _) | (with_reducible refine Below.setCell ?_ ?_ _) | (with_reducible refine Below.drew ?_) | (with_reducible refine below_drewN ?_ _) | (apply bthen2; (with_reducible assumption)) | go_size))
  · have HI := Lib.hid (fun w => inside_any k 1 6000 w)
    cases g1 : inB k 1 6000
    · rw [hw_1 g1]
      rw [g1] at HI
      go_enter Tryd.func6, Tryd.ntmps6
      go_wp2_with (first | (go_at_call 24; refine (isCurve_any _ _ _).mono ?_; rintro e w1 ⟨rfl, hb⟩; have hz := hb.size; (try simp only [World.size_alloc, World.size_setCell, World.size_drew, World.heap_drewN] at hz); try (refine keepc hb (w.heap.size) ?_ ?_; (focus (first | omega | (simp <;> omega))); intro hc0 hf0 hl0); try (refine keepc hb (w.heap.size + 1) ?_ ?_; (focus (first | omega | (simp <;> omega))); intro hc1 hf1 hl1); try (refine keepc hb (w.heap.size + 1 + 1) ?_ ?_; (focus (first | omega | (simp <;> omega))); intro hc2 hf2 hl2)) | (go_at_call 25; refine (HI.out _).mono ?_; rintro e w1 ⟨rfl, rfl⟩))
      go_ret3; exact gives rfl (by repeat' (first | (with_reducible exact Below.refl _ _) | (with_reducible assumption) | (with_reducible refine Below.alloc ?_ ?_ _) | (with_reducible refine Below.setCell ?_ ?_ _) | (with_reducible refine Below.drew ?_) | (with_reducible refine below_drewN ?_ _) | (apply bthen2; (with_reducible assumption)) | go_size))
    · rw [hw_2 g0 g1]
      rw [g1] at HI
      have H0 := Lib.hid (fun w => doublingConstant_any a b g0 w)
      obtain ⟨k1, k2⟩ := inB_f g1
      have hc := dbC_le g0
      generalize dbC a b = C at *
      go_enter Tryd.func6, Tryd.ntmps6
      go_wp2_with (first | (go_at_call 24; refine (isCurve_any _ _ _).mono ?_; rintro e w1 ⟨rfl, hb⟩; have hz := hb.size; (try simp only [World.size_alloc, World.size_setCell, World.size_drew, World.heap_drewN] at hz); try (refine keepc hb (w.heap.size) ?_ ?_; (focus (first | omega | (simp <;> omega))); intro hc0 hf0 hl0); try (refine keepc hb (w.heap.size + 1) ?_ ?_; (focus (first | omega | (simp <;> omega))); intro hc1 hf1 hl1); try (refine keepc hb (w.heap.size + 1 + 1) ?_ ?_; (focus (first | omega | (simp <;> omega))); intro hc2 hf2 hl2)) | (go_at_call 25; refine (HI.out _).mono ?_; rintro e w1 ⟨rfl, rfl⟩) | (go_at_call 26; refine (H0.out _).mono ?_; rintro e w1 ⟨rfl, hb⟩; have hz := hb.size; (try simp only [World.size_alloc, World.size_setCell, World.size_drew, World.heap_drewN] at hz); try (refine keepc hb (w.heap.size) ?_ ?_; (focus (first | omega | (simp <;> omega))); intro hc0 hf0 hl0); try (refine keepc hb (w.heap.size + 1) ?_ ?_; (focus (first | omega | (simp <;> omega))); intro hc1 hf1 hl1); try (refine keepc hb (w.heap.size + 1 + 1) ?_ ?_; (focus (first | omega | (simp <;> omega))); intro hc2 hf2 hl2)))
      go_ret3; exact gives rfl (by repeat' (first | (with_reducible exact Below.refl _ _) | (with_reducible assumption) | (with_reducible refine Below.alloc ?_ ?_ _) | (with_reducible refine Below.setCell ?_ ?_ _) | (with_reducible refine Below.drew ?_) | (with_reducible refine below_drewN ?_ _) | (apply bthen2; (with_reducible assumption)) | go_size))
set_option maxHeartbeats 1000000 in
theorem sHeightWindow_any (a b k : Int) (w : World) : Calls Tryd.prog 7 #[.agg #[.int .i64 a, .int .i64 b], .int .i64 k] w (Gives (hwF a b k) w) := by
  cases g0 : isC a b
  · rw [hw_0 g0]
    go_enter Tryd.func7, Tryd.ntmps7
    go_wp2_with (first | (go_at_call 27; refine (ecGood_any _ _ _).mono ?_; rintro e w1 ⟨rfl, hb⟩; have hz := hb.size; (try simp only [World.size_alloc, World.size_setCell, World.size_drew, World.heap_drewN] at hz); try (refine keepc hb (w.heap.size) ?_ ?_; (focus (first | omega | (simp <;> omega))); intro hc0 hf0 hl0); try (refine keepc hb (w.heap.size + 1) ?_ ?_; (focus (first | omega | (simp <;> omega))); intro hc1 hf1 hl1); try (refine keepc hb (w.heap.size + 1 + 1) ?_ ?_; (focus (first | omega | (simp <;> omega))); intro hc2 hf2 hl2)))
    go_ret3; exact gives rfl (by repeat' (first | (with_reducible exact Below.refl _ _) | (with_reducible assumption) | (with_reducible refine Below.alloc ?_ ?_ _) | (with_reducible refine Below.setCell ?_ ?_ _) | (with_reducible refine Below.drew ?_) | (with_reducible refine below_drewN ?_ _) | (apply bthen2; (with_reducible assumption)) | go_size))
  · have HI := Lib.hid (fun w => l1In_any k 1 6000 w)
    cases g1 : inB k 1 6000
    · rw [hw_1 g1]
      rw [g1] at HI
      go_enter Tryd.func7, Tryd.ntmps7
      go_wp2_with (first | (go_at_call 27; refine (ecGood_any _ _ _).mono ?_; rintro e w1 ⟨rfl, hb⟩; have hz := hb.size; (try simp only [World.size_alloc, World.size_setCell, World.size_drew, World.heap_drewN] at hz); try (refine keepc hb (w.heap.size) ?_ ?_; (focus (first | omega | (simp <;> omega))); intro hc0 hf0 hl0); try (refine keepc hb (w.heap.size + 1) ?_ ?_; (focus (first | omega | (simp <;> omega))); intro hc1 hf1 hl1); try (refine keepc hb (w.heap.size + 1 + 1) ?_ ?_; (focus (first | omega | (simp <;> omega))); intro hc2 hf2 hl2)) | (go_at_call 28; refine (HI.out _).mono ?_; rintro e w1 ⟨rfl, rfl⟩))
      go_ret3; exact gives rfl (by repeat' (first | (with_reducible exact Below.refl _ _) | (with_reducible assumption) | (with_reducible refine Below.alloc ?_ ?_ _) | (with_reducible refine Below.setCell ?_ ?_ _) | (with_reducible refine Below.drew ?_) | (with_reducible refine below_drewN ?_ _) | (apply bthen2; (with_reducible assumption)) | go_size))
    · rw [hw_2 g0 g1]
      rw [g1] at HI
      have H0 := Lib.hid (fun w => htConstant_any a b g0 w)
      obtain ⟨k1, k2⟩ := inB_f g1
      have hc := dbC_le g0
      generalize dbC a b = C at *
      go_enter Tryd.func7, Tryd.ntmps7
      go_wp2_with (first | (go_at_call 27; refine (ecGood_any _ _ _).mono ?_; rintro e wa ⟨rfl, hba⟩; have hza := hba.size; (try simp only [World.size_alloc, World.size_setCell, World.size_drew, World.heap_drewN] at hza); try (refine keepc hba (w.heap.size) ?_ ?_; (focus (first | omega | (simp <;> omega))); intro hca_0 hfa_0 hla_0); try (refine keepc hba (w.heap.size + 1) ?_ ?_; (focus (first | omega | (simp <;> omega))); intro hca_1 hfa_1 hla_1); try (refine keepc hba (w.heap.size + 1 + 1) ?_ ?_; (focus (first | omega | (simp <;> omega))); intro hca_2 hfa_2 hla_2); rw [g0]) | (go_at_call 28; refine (HI.out _).mono ?_; rintro e w1 ⟨rfl, rfl⟩))
      have z0 : wa.cell? ⟨w.heap.size, 0, none⟩ = some (.int .i64 a) := by simp [hca_0, go_sem]
      have z1 : wa.cell? ⟨w.heap.size, 1, none⟩ = some (.int .i64 b) := by simp [hca_0, go_sem]
      have hB : Below w.heap.size w wa := (by repeat' (first | (with_reducible exact Below.refl _ _) | (with_reducible assumption) | (with_reducible refine Below.alloc ?_ ?_ _) | (with_reducible refine Below.setCell ?_ ?_ _) | (with_reducible refine Below.drew ?_) | (with_reducible refine below_drewN ?_ _) | (apply bthen2; (with_reducible assumption)) | go_size))
      clear hca_0 hfa_0 hba
      have W1 : IntKind.i64.wrap (4 * k) = 4 * k := iw9 (by omega)
      have W2 : IntKind.i64.wrap (4 * k - 3) = 4 * k - 3 := iw9 (by omega)
      have W3 : IntKind.i64.wrap (4 * k - 3 - (C : Int)) = 4 * k - 3 - (C : Int) := iw9 (by omega)
      have W4 : IntKind.i64.wrap (4 * k + (C : Int)) = 4 * k + (C : Int) := iw9 (by omega)
      go_region_held3 (fun w' => Below wa.heap.size wa w' ∧ w'.cell? ⟨w.heap.size, 0, none⟩ = some (.int .i64 a) ∧ w'.cell? ⟨w.heap.size, 1, none⟩ = some (.int .i64 b)) ((refine (fun hbK => And.intro hbK (by exact ⟨(hbK.cell (p := ⟨w.heap.size, 0, none⟩) (by first | assumption | omega | (simp; omega))).trans z0, (hbK.cell (p := ⟨w.heap.size, 1, none⟩) (by first | assumption | omega | (simp; omega))).trans z1⟩)) ?_; repeat' (first | (with_reducible exact Below.refl _ _) | (with_reducible assumption) | (with_reducible refine Below.alloc ?_ ?_ _) | (with_reducible refine Below.setCell ?_ ?_ _) | (with_reducible refine Below.drew ?_) | (with_reducible refine below_drewN ?_ _) | (apply bthen2; (with_reducible assumption)) | go_size))) ((first | (go_at_call 29; refine (H0.out _).mono ?_; rintro e wg ⟨rfl, hbg⟩)))
      all_goals (go_wp2; go_ret3; exact gives rfl (by repeat' (first | (with_reducible exact Below.refl _ _) | (with_reducible assumption) | (with_reducible refine Below.alloc ?_ ?_ _) | (with_reducible refine Below.setCell ?_ ?_ _) | (with_reducible refine Below.drew ?_) | (with_reducible refine below_drewN ?_ _) | (apply bthen2; (with_reducible assumption)) | go_size)))

end Go.Proofs.YtfcfjlfobflmaaaDoor
