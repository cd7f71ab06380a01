import Derived.Test.YtelkmldmebdcgaaDrB
import Derived.Deep.CutBlock
set_option linter.unusedSimpArgs false
set_option linter.unusedVariables false
namespace Go.Proofs.Ytelkmldmebdcgaa
open Go.RowKit
/-! ### drawn quartics -/

set_option maxRecDepth 100000 in
set_option maxHeartbeats 8000000 in
theorem quarticC {b K : Nat} {w : World} (h : CurAt w b K) (hK : K ≤ 100000000) : Calls Try.prog 92 #[.pointer (some ⟨b, 0, none⟩)] w (GR3 b (K + 30) w) := by
  have hblt := h.lt
  unfold GR3
  go_enter Try.func92, Try.ntmps92
  go_wp2_with fail
  refine (pickC (K := K) ?_ ?_ ?_ ?_).mono ?_
  · (repeat' (first | assumption | (with_reducible refine CurAt.alloc ?_ _) | (with_reducible refine CurAt.set ?_ (by first | omega | (simp; done) | (simp; omega)) _) | (with_reducible refine CurAt.drewN ?_ _) | (with_reducible refine CurAt.drew ?_)))
  · omega
  · omega
  · omega
  rintro e1 w1 ⟨r1, rfl, ra1, rb1, hc1, hg1⟩
  have hz1 := hg1.size
  (try simp only [World.size_alloc, World.size_setCell, World.size_drew, World.heap_drewN] at hz1)
  have XR_1 : IBox w1 (w.heap.size) 3 := by
    refine IBox.chg ?_ hg1 (by show ¬ _ = _; omega)
    (repeat' (first | assumption | (with_reducible exact IBox.made (by first | rfl | (simp; done)) rfl rfl) | (with_reducible refine IBox.alloc ?_ _) | (with_reducible refine IBox.setI ?_ _ _) | (with_reducible refine IBox.drewN ?_ _)))
  obtain ⟨zR0_1, qR0_1⟩ := XR_1.2.1 0 (by omega)
  obtain ⟨zR1_1, qR1_1⟩ := XR_1.2.1 1 (by omega)
  obtain ⟨zR2_1, qR2_1⟩ := XR_1.2.1 2 (by omega)
  have fR_1 := XR_1.2.2; have lR_1 := XR_1.1
  go_wp2_with fail
  refine (pickC (K := K + 2) ?_ ?_ ?_ ?_).mono ?_
  · (repeat' (first | assumption | (with_reducible refine CurAt.alloc ?_ _) | (with_reducible refine CurAt.set ?_ (by first | omega | (simp; done) | (simp; omega)) _) | (with_reducible refine CurAt.drewN ?_ _) | (with_reducible refine CurAt.drew ?_)))
  · omega
  · omega
  · omega
  rintro e2 w2 ⟨r2, rfl, ra2, rb2, hc2, hg2⟩
  have hz2 := hg2.size
  (try simp only [World.size_alloc, World.size_setCell, World.size_drew, World.heap_drewN] at hz2)
  have XR_2 : IBox w2 (w.heap.size) 3 := by
    refine IBox.chg ?_ hg2 (by show ¬ _ = _; omega)
    (repeat' (first | assumption | (with_reducible exact IBox.made (by first | rfl | (simp; done)) rfl rfl) | (with_reducible refine IBox.alloc ?_ _) | (with_reducible refine IBox.setI ?_ _ _) | (with_reducible refine IBox.drewN ?_ _)))
  clear qR0_1 qR1_1 qR2_1 fR_1 XR_1
  clear hc1
  obtain ⟨zR0_2, qR0_2⟩ := XR_2.2.1 0 (by omega)
  obtain ⟨zR1_2, qR1_2⟩ := XR_2.2.1 1 (by omega)
  obtain ⟨zR2_2, qR2_2⟩ := XR_2.2.1 2 (by omega)
  have fR_2 := XR_2.2.2; have lR_2 := XR_2.1
  go_wp2_with fail
  refine (amongS (K := K + 2 + 2) ?_ ?_ ?_ ?_ ?_ ?_).mono ?_
  · (repeat' (first | assumption | (with_reducible refine CurAt.alloc ?_ _) | (with_reducible refine CurAt.set ?_ (by first | omega | (simp; done) | (simp; omega)) _) | (with_reducible refine CurAt.drewN ?_ _) | (with_reducible refine CurAt.drew ?_)))
  · omega
  · (repeat' (first | assumption | (with_reducible exact IBox.made (by first | rfl | (simp; done)) rfl rfl) | (with_reducible refine IBox.alloc ?_ _) | (with_reducible refine IBox.setI ?_ _ _) | (with_reducible refine IBox.drewN ?_ _)))
  · (show ¬ _ = _; omega)
  · omega
  · omega
  rintro e3 w3 ⟨r3, rfl, hc3, hg3⟩
  have hz3 := hg3.size
  (try simp only [World.size_alloc, World.size_setCell, World.size_drew, World.heap_drewN] at hz3)
  have XR_3 : IBox w3 (w.heap.size) 3 := by
    refine IBox.chg ?_ hg3 (by show ¬ _ = _; omega)
    (repeat' (first | assumption | (with_reducible exact IBox.made (by first | rfl | (simp; done)) rfl rfl) | (with_reducible refine IBox.alloc ?_ _) | (with_reducible refine IBox.setI ?_ _ _) | (with_reducible refine IBox.drewN ?_ _)))
  have XS_3 : IBox w3 (w2.heap.size) 10 := by
    refine IBox.chg ?_ hg3 (by show ¬ _ = _; omega)
    (repeat' (first | assumption | (with_reducible exact IBox.made (by first | rfl | (simp; done)) rfl rfl) | (with_reducible refine IBox.alloc ?_ _) | (with_reducible refine IBox.setI ?_ _ _) | (with_reducible refine IBox.drewN ?_ _)))
  clear qR0_2 qR1_2 qR2_2 fR_2 XR_2
  clear hc2
  obtain ⟨zR0_3, qR0_3⟩ := XR_3.2.1 0 (by omega)
  obtain ⟨zR1_3, qR1_3⟩ := XR_3.2.1 1 (by omega)
  obtain ⟨zR2_3, qR2_3⟩ := XR_3.2.1 2 (by omega)
  have fR_3 := XR_3.2.2; have lR_3 := XR_3.1
  obtain ⟨zS0_3, qS0_3⟩ := XS_3.2.1 0 (by omega)
  obtain ⟨zS1_3, qS1_3⟩ := XS_3.2.1 1 (by omega)
  obtain ⟨zS2_3, qS2_3⟩ := XS_3.2.1 2 (by omega)
  obtain ⟨zS3_3, qS3_3⟩ := XS_3.2.1 3 (by omega)
  obtain ⟨zS4_3, qS4_3⟩ := XS_3.2.1 4 (by omega)
  obtain ⟨zS5_3, qS5_3⟩ := XS_3.2.1 5 (by omega)
  obtain ⟨zS6_3, qS6_3⟩ := XS_3.2.1 6 (by omega)
  obtain ⟨zS7_3, qS7_3⟩ := XS_3.2.1 7 (by omega)
  obtain ⟨zS8_3, qS8_3⟩ := XS_3.2.1 8 (by omega)
  obtain ⟨zS9_3, qS9_3⟩ := XS_3.2.1 9 (by omega)
  have fS_3 := XS_3.2.2; have lS_3 := XS_3.1
  go_wp2_with fail
  refine (pickC (K := K + 2 + 2 + 2) ?_ ?_ ?_ ?_).mono ?_
  · (repeat' (first | assumption | (with_reducible refine CurAt.alloc ?_ _) | (with_reducible refine CurAt.set ?_ (by first | omega | (simp; done) | (simp; omega)) _) | (with_reducible refine CurAt.drewN ?_ _) | (with_reducible refine CurAt.drew ?_)))
  · omega
  · omega
  · omega
  rintro e4 w4 ⟨r4, rfl, ra4, rb4, hc4, hg4⟩
  have hz4 := hg4.size
  (try simp only [World.size_alloc, World.size_setCell, World.size_drew, World.heap_drewN] at hz4)
  have XR_4 : IBox w4 (w.heap.size) 3 := by
    refine IBox.chg ?_ hg4 (by show ¬ _ = _; omega)
    (repeat' (first | assumption | (with_reducible exact IBox.made (by first | rfl | (simp; done)) rfl rfl) | (with_reducible refine IBox.alloc ?_ _) | (with_reducible refine IBox.setI ?_ _ _) | (with_reducible refine IBox.drewN ?_ _)))
  have XS_4 : IBox w4 (w2.heap.size) 10 := by
    refine IBox.chg ?_ hg4 (by show ¬ _ = _; omega)
    (repeat' (first | assumption | (with_reducible exact IBox.made (by first | rfl | (simp; done)) rfl rfl) | (with_reducible refine IBox.alloc ?_ _) | (with_reducible refine IBox.setI ?_ _ _) | (with_reducible refine IBox.drewN ?_ _)))
  clear qR0_3 qR1_3 qR2_3 fR_3 XR_3 qS0_3 qS1_3 qS2_3 qS3_3 qS4_3 qS5_3 qS6_3 qS7_3 qS8_3 qS9_3 fS_3 XS_3
  clear hc3
  obtain ⟨zR0_4, qR0_4⟩ := XR_4.2.1 0 (by omega)
  obtain ⟨zR1_4, qR1_4⟩ := XR_4.2.1 1 (by omega)
  obtain ⟨zR2_4, qR2_4⟩ := XR_4.2.1 2 (by omega)
  have fR_4 := XR_4.2.2; have lR_4 := XR_4.1
  obtain ⟨zS0_4, qS0_4⟩ := XS_4.2.1 0 (by omega)
  obtain ⟨zS1_4, qS1_4⟩ := XS_4.2.1 1 (by omega)
  obtain ⟨zS2_4, qS2_4⟩ := XS_4.2.1 2 (by omega)
  obtain ⟨zS3_4, qS3_4⟩ := XS_4.2.1 3 (by omega)
  obtain ⟨zS4_4, qS4_4⟩ := XS_4.2.1 4 (by omega)
  obtain ⟨zS5_4, qS5_4⟩ := XS_4.2.1 5 (by omega)
  obtain ⟨zS6_4, qS6_4⟩ := XS_4.2.1 6 (by omega)
  obtain ⟨zS7_4, qS7_4⟩ := XS_4.2.1 7 (by omega)
  obtain ⟨zS8_4, qS8_4⟩ := XS_4.2.1 8 (by omega)
  obtain ⟨zS9_4, qS9_4⟩ := XS_4.2.1 9 (by omega)
  have fS_4 := XS_4.2.2; have lS_4 := XS_4.1
  go_wp2_with fail
  refine (amongC (K := K + 2 + 2 + 2 + 2) ?_ ?_ ?_ ?_ ?_ ?_ ?_).mono ?_
  · (repeat' (first | assumption | (with_reducible refine CurAt.alloc ?_ _) | (with_reducible refine CurAt.set ?_ (by first | omega | (simp; done) | (simp; omega)) _) | (with_reducible refine CurAt.drewN ?_ _) | (with_reducible refine CurAt.drew ?_)))
  · omega
  · (first | rfl | (simp; done))
  · rfl
  · (simp; done)
  · (simp; done)
  · rfl
  rintro e5 w5 ⟨r5, rm5, rfl, hc5, hg5⟩
  clear rm5
  have hz5 := hg5.size
  (try simp only [World.size_alloc, World.size_setCell, World.size_drew, World.heap_drewN] at hz5)
  have XR_5 : IBox w5 (w.heap.size) 3 := by
    refine IBox.chg ?_ hg5 (by show ¬ _ = _; omega)
    (repeat' (first | assumption | (with_reducible exact IBox.made (by first | rfl | (simp; done)) rfl rfl) | (with_reducible refine IBox.alloc ?_ _) | (with_reducible refine IBox.setI ?_ _ _) | (with_reducible refine IBox.drewN ?_ _)))
  have XS_5 : IBox w5 (w2.heap.size) 10 := by
    refine IBox.chg ?_ hg5 (by show ¬ _ = _; omega)
    (repeat' (first | assumption | (with_reducible exact IBox.made (by first | rfl | (simp; done)) rfl rfl) | (with_reducible refine IBox.alloc ?_ _) | (with_reducible refine IBox.setI ?_ _ _) | (with_reducible refine IBox.drewN ?_ _)))
  clear qR0_4 qR1_4 qR2_4 fR_4 XR_4 qS0_4 qS1_4 qS2_4 qS3_4 qS4_4 qS5_4 qS6_4 qS7_4 qS8_4 qS9_4 fS_4 XS_4
  clear hc4
  obtain ⟨zR0_5, qR0_5⟩ := XR_5.2.1 0 (by omega)
  obtain ⟨zR1_5, qR1_5⟩ := XR_5.2.1 1 (by omega)
  obtain ⟨zR2_5, qR2_5⟩ := XR_5.2.1 2 (by omega)
  have fR_5 := XR_5.2.2; have lR_5 := XR_5.1
  obtain ⟨zS0_5, qS0_5⟩ := XS_5.2.1 0 (by omega)
  obtain ⟨zS1_5, qS1_5⟩ := XS_5.2.1 1 (by omega)
  obtain ⟨zS2_5, qS2_5⟩ := XS_5.2.1 2 (by omega)
  obtain ⟨zS3_5, qS3_5⟩ := XS_5.2.1 3 (by omega)
  obtain ⟨zS4_5, qS4_5⟩ := XS_5.2.1 4 (by omega)
  obtain ⟨zS5_5, qS5_5⟩ := XS_5.2.1 5 (by omega)
  obtain ⟨zS6_5, qS6_5⟩ := XS_5.2.1 6 (by omega)
  obtain ⟨zS7_5, qS7_5⟩ := XS_5.2.1 7 (by omega)
  obtain ⟨zS8_5, qS8_5⟩ := XS_5.2.1 8 (by omega)
  obtain ⟨zS9_5, qS9_5⟩ := XS_5.2.1 9 (by omega)
  have fS_5 := XS_5.2.2; have lS_5 := XS_5.1
  go_wp2_with fail
  refine (amongS (K := K + 2 + 2 + 2 + 2 + 2) ?_ ?_ ?_ ?_ ?_ ?_).mono ?_
  · (repeat' (first | assumption | (with_reducible refine CurAt.alloc ?_ _) | (with_reducible refine CurAt.set ?_ (by first | omega | (simp; done) | (simp; omega)) _) | (with_reducible refine CurAt.drewN ?_ _) | (with_reducible refine CurAt.drew ?_)))
  · omega
  · (repeat' (first | assumption | (with_reducible exact IBox.made (by first | rfl | (simp; done)) rfl rfl) | (with_reducible refine IBox.alloc ?_ _) | (with_reducible refine IBox.setI ?_ _ _) | (with_reducible refine IBox.drewN ?_ _)))
  · (show ¬ _ = _; omega)
  · omega
  · omega
  rintro e6 w6 ⟨r6, rfl, hc6, hg6⟩
  have hz6 := hg6.size
  (try simp only [World.size_alloc, World.size_setCell, World.size_drew, World.heap_drewN] at hz6)
  have XR_6 : IBox w6 (w.heap.size) 3 := by
    refine IBox.chg ?_ hg6 (by show ¬ _ = _; omega)
    (repeat' (first | assumption | (with_reducible exact IBox.made (by first | rfl | (simp; done)) rfl rfl) | (with_reducible refine IBox.alloc ?_ _) | (with_reducible refine IBox.setI ?_ _ _) | (with_reducible refine IBox.drewN ?_ _)))
  have XS_6 : IBox w6 (w2.heap.size) 10 := by
    refine IBox.chg ?_ hg6 (by show ¬ _ = _; omega)
    (repeat' (first | assumption | (with_reducible exact IBox.made (by first | rfl | (simp; done)) rfl rfl) | (with_reducible refine IBox.alloc ?_ _) | (with_reducible refine IBox.setI ?_ _ _) | (with_reducible refine IBox.drewN ?_ _)))
  clear qR0_5 qR1_5 qR2_5 fR_5 XR_5 qS0_5 qS1_5 qS2_5 qS3_5 qS4_5 qS5_5 qS6_5 qS7_5 qS8_5 qS9_5 fS_5 XS_5
  clear hc5
  obtain ⟨zR0_6, qR0_6⟩ := XR_6.2.1 0 (by omega)
  obtain ⟨zR1_6, qR1_6⟩ := XR_6.2.1 1 (by omega)
  obtain ⟨zR2_6, qR2_6⟩ := XR_6.2.1 2 (by omega)
  have fR_6 := XR_6.2.2; have lR_6 := XR_6.1
  obtain ⟨zS0_6, qS0_6⟩ := XS_6.2.1 0 (by omega)
  obtain ⟨zS1_6, qS1_6⟩ := XS_6.2.1 1 (by omega)
  obtain ⟨zS2_6, qS2_6⟩ := XS_6.2.1 2 (by omega)
  obtain ⟨zS3_6, qS3_6⟩ := XS_6.2.1 3 (by omega)
  obtain ⟨zS4_6, qS4_6⟩ := XS_6.2.1 4 (by omega)
  obtain ⟨zS5_6, qS5_6⟩ := XS_6.2.1 5 (by omega)
  obtain ⟨zS6_6, qS6_6⟩ := XS_6.2.1 6 (by omega)
  obtain ⟨zS7_6, qS7_6⟩ := XS_6.2.1 7 (by omega)
  obtain ⟨zS8_6, qS8_6⟩ := XS_6.2.1 8 (by omega)
  obtain ⟨zS9_6, qS9_6⟩ := XS_6.2.1 9 (by omega)
  have fS_6 := XS_6.2.2; have lS_6 := XS_6.1
  go_wp2_with fail
  refine (pickC (K := K + 2 + 2 + 2 + 2 + 2 + 2) ?_ ?_ ?_ ?_).mono ?_
  · (repeat' (first | assumption | (with_reducible refine CurAt.alloc ?_ _) | (with_reducible refine CurAt.set ?_ (by first | omega | (simp; done) | (simp; omega)) _) | (with_reducible refine CurAt.drewN ?_ _) | (with_reducible refine CurAt.drew ?_)))
  · omega
  · omega
  · omega
  rintro e7 w7 ⟨r7, rfl, ra7, rb7, hc7, hg7⟩
  have hz7 := hg7.size
  (try simp only [World.size_alloc, World.size_setCell, World.size_drew, World.heap_drewN] at hz7)
  have XR_7 : IBox w7 (w.heap.size) 3 := by
    refine IBox.chg ?_ hg7 (by show ¬ _ = _; omega)
    (repeat' (first | assumption | (with_reducible exact IBox.made (by first | rfl | (simp; done)) rfl rfl) | (with_reducible refine IBox.alloc ?_ _) | (with_reducible refine IBox.setI ?_ _ _) | (with_reducible refine IBox.drewN ?_ _)))
  have XE_7 : IBox w7 (w6.heap.size) 3 := by
    refine IBox.chg ?_ hg7 (by show ¬ _ = _; omega)
    (repeat' (first | assumption | (with_reducible exact IBox.made (by first | rfl | (simp; done)) rfl rfl) | (with_reducible refine IBox.alloc ?_ _) | (with_reducible refine IBox.setI ?_ _ _) | (with_reducible refine IBox.drewN ?_ _)))
  clear qR0_6 qR1_6 qR2_6 fR_6 XR_6 qS0_6 qS1_6 qS2_6 qS3_6 qS4_6 qS5_6 qS6_6 qS7_6 qS8_6 qS9_6 fS_6 XS_6
  clear hc6
  obtain ⟨zR0_7, qR0_7⟩ := XR_7.2.1 0 (by omega)
  obtain ⟨zR1_7, qR1_7⟩ := XR_7.2.1 1 (by omega)
  obtain ⟨zR2_7, qR2_7⟩ := XR_7.2.1 2 (by omega)
  have fR_7 := XR_7.2.2; have lR_7 := XR_7.1
  obtain ⟨zE0_7, qE0_7⟩ := XE_7.2.1 0 (by omega)
  obtain ⟨zE1_7, qE1_7⟩ := XE_7.2.1 1 (by omega)
  obtain ⟨zE2_7, qE2_7⟩ := XE_7.2.1 2 (by omega)
  have fE_7 := XE_7.2.2; have lE_7 := XE_7.1
  go_upto_block 0 with fail
  go_cut [5] (fun _ wx => CurAt wx b (K + 2 + 2 + 2 + 2 + 2 + 2 + 2 + 6) ∧ IBox wx (w.heap.size) 3 ∧ IBox wx (w6.heap.size) 3 ∧ ChgS (fun k => k = b) w wx)
  case first =>
    by_cases hs7_0 : r7 = 0
    · subst hs7_0
      go_wp2_with fail
      refine (pickC (K := K + 2 + 2 + 2 + 2 + 2 + 2 + 2) ?_ ?_ ?_ ?_).mono ?_
      · (repeat' (first | assumption | (with_reducible refine CurAt.alloc ?_ _) | (with_reducible refine CurAt.set ?_ (by first | omega | (simp; done) | (simp; omega)) _) | (with_reducible refine CurAt.drewN ?_ _) | (with_reducible refine CurAt.drew ?_)))
      · omega
      · omega
      · omega
      rintro e8 w8 ⟨r8, rfl, ra8, rb8, hc8, hg8⟩
      have hz8 := hg8.size
      (try simp only [World.size_alloc, World.size_setCell, World.size_drew, World.heap_drewN] at hz8)
      have XR_8 : IBox w8 (w.heap.size) 3 := by
        refine IBox.chg ?_ hg8 (by show ¬ _ = _; omega)
        (repeat' (first | assumption | (with_reducible exact IBox.made (by first | rfl | (simp; done)) rfl rfl) | (with_reducible refine IBox.alloc ?_ _) | (with_reducible refine IBox.setI ?_ _ _) | (with_reducible refine IBox.drewN ?_ _)))
      have XE_8 : IBox w8 (w6.heap.size) 3 := by
        refine IBox.chg ?_ hg8 (by show ¬ _ = _; omega)
        (repeat' (first | assumption | (with_reducible exact IBox.made (by first | rfl | (simp; done)) rfl rfl) | (with_reducible refine IBox.alloc ?_ _) | (with_reducible refine IBox.setI ?_ _ _) | (with_reducible refine IBox.drewN ?_ _)))
      clear qR0_7 qR1_7 qR2_7 fR_7 XR_7 qE0_7 qE1_7 qE2_7 fE_7 XE_7
      clear hc7
      obtain ⟨zR0_8, qR0_8⟩ := XR_8.2.1 0 (by omega)
      obtain ⟨zR1_8, qR1_8⟩ := XR_8.2.1 1 (by omega)
      obtain ⟨zR2_8, qR2_8⟩ := XR_8.2.1 2 (by omega)
      have fR_8 := XR_8.2.2; have lR_8 := XR_8.1
      obtain ⟨zE0_8, qE0_8⟩ := XE_8.2.1 0 (by omega)
      obtain ⟨zE1_8, qE1_8⟩ := XE_8.2.1 1 (by omega)
      obtain ⟨zE2_8, qE2_8⟩ := XE_8.2.1 2 (by omega)
      have fE_8 := XE_8.2.2; have lE_8 := XE_8.1
      go_wp2_with fail
      refine (pickC (K := K + 2 + 2 + 2 + 2 + 2 + 2 + 2 + 2) ?_ ?_ ?_ ?_).mono ?_
      · (repeat' (first | assumption | (with_reducible refine CurAt.alloc ?_ _) | (with_reducible refine CurAt.set ?_ (by first | omega | (simp; done) | (simp; omega)) _) | (with_reducible refine CurAt.drewN ?_ _) | (with_reducible refine CurAt.drew ?_)))
      · omega
      · omega
      · omega
      rintro e9 w9 ⟨r9, rfl, ra9, rb9, hc9, hg9⟩
      have hz9 := hg9.size
      (try simp only [World.size_alloc, World.size_setCell, World.size_drew, World.heap_drewN] at hz9)
      have XR_9 : IBox w9 (w.heap.size) 3 := by
        refine IBox.chg ?_ hg9 (by show ¬ _ = _; omega)
        (repeat' (first | assumption | (with_reducible exact IBox.made (by first | rfl | (simp; done)) rfl rfl) | (with_reducible refine IBox.alloc ?_ _) | (with_reducible refine IBox.setI ?_ _ _) | (with_reducible refine IBox.drewN ?_ _)))
      have XE_9 : IBox w9 (w6.heap.size) 3 := by
        refine IBox.chg ?_ hg9 (by show ¬ _ = _; omega)
        (repeat' (first | assumption | (with_reducible exact IBox.made (by first | rfl | (simp; done)) rfl rfl) | (with_reducible refine IBox.alloc ?_ _) | (with_reducible refine IBox.setI ?_ _ _) | (with_reducible refine IBox.drewN ?_ _)))
      clear qR0_8 qR1_8 qR2_8 fR_8 XR_8 qE0_8 qE1_8 qE2_8 fE_8 XE_8
      clear hc8
      obtain ⟨zR0_9, qR0_9⟩ := XR_9.2.1 0 (by omega)
      obtain ⟨zR1_9, qR1_9⟩ := XR_9.2.1 1 (by omega)
      obtain ⟨zR2_9, qR2_9⟩ := XR_9.2.1 2 (by omega)
      have fR_9 := XR_9.2.2; have lR_9 := XR_9.1
      obtain ⟨zE0_9, qE0_9⟩ := XE_9.2.1 0 (by omega)
      obtain ⟨zE1_9, qE1_9⟩ := XE_9.2.1 1 (by omega)
      obtain ⟨zE2_9, qE2_9⟩ := XE_9.2.1 2 (by omega)
      have fE_9 := XE_9.2.2; have lE_9 := XE_9.1
      rcases (show r9 = 0 ∨ r9 = 1 ∨ r9 = 2 by omega) with rfl | rfl | rfl
      · skip
        go_wp2_with fail
        refine (pickC (K := K + 2 + 2 + 2 + 2 + 2 + 2 + 2 + 2 + 2) ?_ ?_ ?_ ?_).mono ?_
        · (repeat' (first | assumption | (with_reducible refine CurAt.alloc ?_ _) | (with_reducible refine CurAt.set ?_ (by first | omega | (simp; done) | (simp; omega)) _) | (with_reducible refine CurAt.drewN ?_ _) | (with_reducible refine CurAt.drew ?_)))
        · omega
        · omega
        · omega
        rintro e10 w10 ⟨r10, rfl, ra10, rb10, hc10, hg10⟩
        have hz10 := hg10.size
        (try simp only [World.size_alloc, World.size_setCell, World.size_drew, World.heap_drewN] at hz10)
        have XR_10 : IBox w10 (w.heap.size) 3 := by
          refine IBox.chg ?_ hg10 (by show ¬ _ = _; omega)
          (repeat' (first | assumption | (with_reducible exact IBox.made (by first | rfl | (simp; done)) rfl rfl) | (with_reducible refine IBox.alloc ?_ _) | (with_reducible refine IBox.setI ?_ _ _) | (with_reducible refine IBox.drewN ?_ _)))
        have XE_10 : IBox w10 (w6.heap.size) 3 := by
          refine IBox.chg ?_ hg10 (by show ¬ _ = _; omega)
          (repeat' (first | assumption | (with_reducible exact IBox.made (by first | rfl | (simp; done)) rfl rfl) | (with_reducible refine IBox.alloc ?_ _) | (with_reducible refine IBox.setI ?_ _ _) | (with_reducible refine IBox.drewN ?_ _)))
        clear qR0_9 qR1_9 qR2_9 fR_9 XR_9 qE0_9 qE1_9 qE2_9 fE_9 XE_9
        clear hc9
        obtain ⟨zR0_10, qR0_10⟩ := XR_10.2.1 0 (by omega)
        obtain ⟨zR1_10, qR1_10⟩ := XR_10.2.1 1 (by omega)
        obtain ⟨zR2_10, qR2_10⟩ := XR_10.2.1 2 (by omega)
        have fR_10 := XR_10.2.2; have lR_10 := XR_10.1
        obtain ⟨zE0_10, qE0_10⟩ := XE_10.2.1 0 (by omega)
        obtain ⟨zE1_10, qE1_10⟩ := XE_10.2.1 1 (by omega)
        obtain ⟨zE2_10, qE2_10⟩ := XE_10.2.1 2 (by omega)
        have fE_10 := XE_10.2.2; have lE_10 := XE_10.1
        go_wp2_with fail
        all_goals
          go_meet
          exact ⟨CurAt.mono (K := K + 2 + 2 + 2 + 2 + 2 + 2 + 2 + 2 + 2 + 2) (by (repeat' (first | assumption | (with_reducible refine CurAt.alloc ?_ _) | (with_reducible refine CurAt.set ?_ (by first | omega | (simp; done) | (simp; omega)) _) | (with_reducible refine CurAt.drewN ?_ _) | (with_reducible refine CurAt.drew ?_)))) (by omega), by (repeat' (first | assumption | (with_reducible exact IBox.made (by first | rfl | (simp; done)) rfl rfl) | (with_reducible refine IBox.alloc ?_ _) | (with_reducible refine IBox.setI ?_ _ _) | (with_reducible refine IBox.drewN ?_ _))), by (repeat' (first | assumption | (with_reducible exact IBox.made (by first | rfl | (simp; done)) rfl rfl) | (with_reducible refine IBox.alloc ?_ _) | (with_reducible refine IBox.setI ?_ _ _) | (with_reducible refine IBox.drewN ?_ _))), by (repeat' (first | (with_reducible exact ChgS.refl _ _) | (with_reducible assumption) | (with_reducible refine ChgS.alloc ?_ _) | (with_reducible refine ChgS.setN ?_ (.inr (by first | omega | (simp; done) | (simp; omega))) _) | (with_reducible refine ChgS.drewNX ?_ _) | (refine ChgS.then2 (by assumption) ?_)))⟩
      · skip
        go_wp2_with fail
        refine (pickC (K := K + 2 + 2 + 2 + 2 + 2 + 2 + 2 + 2 + 2) ?_ ?_ ?_ ?_).mono ?_
        · (repeat' (first | assumption | (with_reducible refine CurAt.alloc ?_ _) | (with_reducible refine CurAt.set ?_ (by first | omega | (simp; done) | (simp; omega)) _) | (with_reducible refine CurAt.drewN ?_ _) | (with_reducible refine CurAt.drew ?_)))
        · omega
        · omega
        · omega
        rintro e10 w10 ⟨r10, rfl, ra10, rb10, hc10, hg10⟩
        have hz10 := hg10.size
        (try simp only [World.size_alloc, World.size_setCell, World.size_drew, World.heap_drewN] at hz10)
        have XR_10 : IBox w10 (w.heap.size) 3 := by
          refine IBox.chg ?_ hg10 (by show ¬ _ = _; omega)
          (repeat' (first | assumption | (with_reducible exact IBox.made (by first | rfl | (simp; done)) rfl rfl) | (with_reducible refine IBox.alloc ?_ _) | (with_reducible refine IBox.setI ?_ _ _) | (with_reducible refine IBox.drewN ?_ _)))
        have XE_10 : IBox w10 (w6.heap.size) 3 := by
          refine IBox.chg ?_ hg10 (by show ¬ _ = _; omega)
          (repeat' (first | assumption | (with_reducible exact IBox.made (by first | rfl | (simp; done)) rfl rfl) | (with_reducible refine IBox.alloc ?_ _) | (with_reducible refine IBox.setI ?_ _ _) | (with_reducible refine IBox.drewN ?_ _)))
        clear qR0_9 qR1_9 qR2_9 fR_9 XR_9 qE0_9 qE1_9 qE2_9 fE_9 XE_9
        clear hc9
        obtain ⟨zR0_10, qR0_10⟩ := XR_10.2.1 0 (by omega)
        obtain ⟨zR1_10, qR1_10⟩ := XR_10.2.1 1 (by omega)
        obtain ⟨zR2_10, qR2_10⟩ := XR_10.2.1 2 (by omega)
        have fR_10 := XR_10.2.2; have lR_10 := XR_10.1
        obtain ⟨zE0_10, qE0_10⟩ := XE_10.2.1 0 (by omega)
        obtain ⟨zE1_10, qE1_10⟩ := XE_10.2.1 1 (by omega)
        obtain ⟨zE2_10, qE2_10⟩ := XE_10.2.1 2 (by omega)
        have fE_10 := XE_10.2.2; have lE_10 := XE_10.1
        go_wp2_with fail
        all_goals
          go_meet
          exact ⟨CurAt.mono (K := K + 2 + 2 + 2 + 2 + 2 + 2 + 2 + 2 + 2 + 2) (by (repeat' (first | assumption | (with_reducible refine CurAt.alloc ?_ _) | (with_reducible refine CurAt.set ?_ (by first | omega | (simp; done) | (simp; omega)) _) | (with_reducible refine CurAt.drewN ?_ _) | (with_reducible refine CurAt.drew ?_)))) (by omega), by (repeat' (first | assumption | (with_reducible exact IBox.made (by first | rfl | (simp; done)) rfl rfl) | (with_reducible refine IBox.alloc ?_ _) | (with_reducible refine IBox.setI ?_ _ _) | (with_reducible refine IBox.drewN ?_ _))), by (repeat' (first | assumption | (with_reducible exact IBox.made (by first | rfl | (simp; done)) rfl rfl) | (with_reducible refine IBox.alloc ?_ _) | (with_reducible refine IBox.setI ?_ _ _) | (with_reducible refine IBox.drewN ?_ _))), by (repeat' (first | (with_reducible exact ChgS.refl _ _) | (with_reducible assumption) | (with_reducible refine ChgS.alloc ?_ _) | (with_reducible refine ChgS.setN ?_ (.inr (by first | omega | (simp; done) | (simp; omega))) _) | (with_reducible refine ChgS.drewNX ?_ _) | (refine ChgS.then2 (by assumption) ?_)))⟩
      · skip
        go_wp2_with fail
        refine (pickC (K := K + 2 + 2 + 2 + 2 + 2 + 2 + 2 + 2 + 2) ?_ ?_ ?_ ?_).mono ?_
        · (repeat' (first | assumption | (with_reducible refine CurAt.alloc ?_ _) | (with_reducible refine CurAt.set ?_ (by first | omega | (simp; done) | (simp; omega)) _) | (with_reducible refine CurAt.drewN ?_ _) | (with_reducible refine CurAt.drew ?_)))
        · omega
        · omega
        · omega
        rintro e10 w10 ⟨r10, rfl, ra10, rb10, hc10, hg10⟩
        have hz10 := hg10.size
        (try simp only [World.size_alloc, World.size_setCell, World.size_drew, World.heap_drewN] at hz10)
        have XR_10 : IBox w10 (w.heap.size) 3 := by
          refine IBox.chg ?_ hg10 (by show ¬ _ = _; omega)
          (repeat' (first | assumption | (with_reducible exact IBox.made (by first | rfl | (simp; done)) rfl rfl) | (with_reducible refine IBox.alloc ?_ _) | (with_reducible refine IBox.setI ?_ _ _) | (with_reducible refine IBox.drewN ?_ _)))
        have XE_10 : IBox w10 (w6.heap.size) 3 := by
          refine IBox.chg ?_ hg10 (by show ¬ _ = _; omega)
          (repeat' (first | assumption | (with_reducible exact IBox.made (by first | rfl | (simp; done)) rfl rfl) | (with_reducible refine IBox.alloc ?_ _) | (with_reducible refine IBox.setI ?_ _ _) | (with_reducible refine IBox.drewN ?_ _)))
        clear qR0_9 qR1_9 qR2_9 fR_9 XR_9 qE0_9 qE1_9 qE2_9 fE_9 XE_9
        clear hc9
        obtain ⟨zR0_10, qR0_10⟩ := XR_10.2.1 0 (by omega)
        obtain ⟨zR1_10, qR1_10⟩ := XR_10.2.1 1 (by omega)
        obtain ⟨zR2_10, qR2_10⟩ := XR_10.2.1 2 (by omega)
        have fR_10 := XR_10.2.2; have lR_10 := XR_10.1
        obtain ⟨zE0_10, qE0_10⟩ := XE_10.2.1 0 (by omega)
        obtain ⟨zE1_10, qE1_10⟩ := XE_10.2.1 1 (by omega)
        obtain ⟨zE2_10, qE2_10⟩ := XE_10.2.1 2 (by omega)
        have fE_10 := XE_10.2.2; have lE_10 := XE_10.1
        go_wp2_with fail
        all_goals
          go_meet
          exact ⟨CurAt.mono (K := K + 2 + 2 + 2 + 2 + 2 + 2 + 2 + 2 + 2 + 2) (by (repeat' (first | assumption | (with_reducible refine CurAt.alloc ?_ _) | (with_reducible refine CurAt.set ?_ (by first | omega | (simp; done) | (simp; omega)) _) | (with_reducible refine CurAt.drewN ?_ _) | (with_reducible refine CurAt.drew ?_)))) (by omega), by (repeat' (first | assumption | (with_reducible exact IBox.made (by first | rfl | (simp; done)) rfl rfl) | (with_reducible refine IBox.alloc ?_ _) | (with_reducible refine IBox.setI ?_ _ _) | (with_reducible refine IBox.drewN ?_ _))), by (repeat' (first | assumption | (with_reducible exact IBox.made (by first | rfl | (simp; done)) rfl rfl) | (with_reducible refine IBox.alloc ?_ _) | (with_reducible refine IBox.setI ?_ _ _) | (with_reducible refine IBox.drewN ?_ _))), by (repeat' (first | (with_reducible exact ChgS.refl _ _) | (with_reducible assumption) | (with_reducible refine ChgS.alloc ?_ _) | (with_reducible refine ChgS.setN ?_ (.inr (by first | omega | (simp; done) | (simp; omega))) _) | (with_reducible refine ChgS.drewNX ?_ _) | (refine ChgS.then2 (by assumption) ?_)))⟩
    · have hq7_0 : (r7 == 0) = false := by simpa using hs7_0
      by_cases hs7_1 : r7 = 1
      · subst hs7_1
        go_wp2_with fail
        refine (amongC (K := K + 2 + 2 + 2 + 2 + 2 + 2 + 2) ?_ ?_ ?_ ?_ ?_ ?_ ?_).mono ?_
        · (repeat' (first | assumption | (with_reducible refine CurAt.alloc ?_ _) | (with_reducible refine CurAt.set ?_ (by first | omega | (simp; done) | (simp; omega)) _) | (with_reducible refine CurAt.drewN ?_ _) | (with_reducible refine CurAt.drew ?_)))
        · omega
        · (first | rfl | (simp; done))
        · rfl
        · (simp; done)
        · (simp; done)
        · rfl
        rintro e8 w8 ⟨r8, rm8, rfl, hc8, hg8⟩
        clear rm8
        have hz8 := hg8.size
        (try simp only [World.size_alloc, World.size_setCell, World.size_drew, World.heap_drewN] at hz8)
        have XR_8 : IBox w8 (w.heap.size) 3 := by
          refine IBox.chg ?_ hg8 (by show ¬ _ = _; omega)
          (repeat' (first | assumption | (with_reducible exact IBox.made (by first | rfl | (simp; done)) rfl rfl) | (with_reducible refine IBox.alloc ?_ _) | (with_reducible refine IBox.setI ?_ _ _) | (with_reducible refine IBox.drewN ?_ _)))
        have XE_8 : IBox w8 (w6.heap.size) 3 := by
          refine IBox.chg ?_ hg8 (by show ¬ _ = _; omega)
          (repeat' (first | assumption | (with_reducible exact IBox.made (by first | rfl | (simp; done)) rfl rfl) | (with_reducible refine IBox.alloc ?_ _) | (with_reducible refine IBox.setI ?_ _ _) | (with_reducible refine IBox.drewN ?_ _)))
        clear qR0_7 qR1_7 qR2_7 fR_7 XR_7 qE0_7 qE1_7 qE2_7 fE_7 XE_7
        clear hc7
        obtain ⟨zR0_8, qR0_8⟩ := XR_8.2.1 0 (by omega)
        obtain ⟨zR1_8, qR1_8⟩ := XR_8.2.1 1 (by omega)
        obtain ⟨zR2_8, qR2_8⟩ := XR_8.2.1 2 (by omega)
        have fR_8 := XR_8.2.2; have lR_8 := XR_8.1
        obtain ⟨zE0_8, qE0_8⟩ := XE_8.2.1 0 (by omega)
        obtain ⟨zE1_8, qE1_8⟩ := XE_8.2.1 1 (by omega)
        obtain ⟨zE2_8, qE2_8⟩ := XE_8.2.1 2 (by omega)
        have fE_8 := XE_8.2.2; have lE_8 := XE_8.1
        go_wp2_with fail
        refine (oneC (K := K + 2 + 2 + 2 + 2 + 2 + 2 + 2 + 2) ?_ ?_ ?_).mono ?_
        · (repeat' (first | assumption | (with_reducible refine CurAt.alloc ?_ _) | (with_reducible refine CurAt.set ?_ (by first | omega | (simp; done) | (simp; omega)) _) | (with_reducible refine CurAt.drewN ?_ _) | (with_reducible refine CurAt.drew ?_)))
        · omega
        · omega
        rintro e9 w9 ⟨r9, rfl, hc9, hg9⟩
        have hz9 := hg9.size
        (try simp only [World.size_alloc, World.size_setCell, World.size_drew, World.heap_drewN] at hz9)
        have XR_9 : IBox w9 (w.heap.size) 3 := by
          refine IBox.chg ?_ hg9 (by show ¬ _ = _; omega)
          (repeat' (first | assumption | (with_reducible exact IBox.made (by first | rfl | (simp; done)) rfl rfl) | (with_reducible refine IBox.alloc ?_ _) | (with_reducible refine IBox.setI ?_ _ _) | (with_reducible refine IBox.drewN ?_ _)))
        have XE_9 : IBox w9 (w6.heap.size) 3 := by
          refine IBox.chg ?_ hg9 (by show ¬ _ = _; omega)
          (repeat' (first | assumption | (with_reducible exact IBox.made (by first | rfl | (simp; done)) rfl rfl) | (with_reducible refine IBox.alloc ?_ _) | (with_reducible refine IBox.setI ?_ _ _) | (with_reducible refine IBox.drewN ?_ _)))
        clear qR0_8 qR1_8 qR2_8 fR_8 XR_8 qE0_8 qE1_8 qE2_8 fE_8 XE_8
        clear hc8
        obtain ⟨zR0_9, qR0_9⟩ := XR_9.2.1 0 (by omega)
        obtain ⟨zR1_9, qR1_9⟩ := XR_9.2.1 1 (by omega)
        obtain ⟨zR2_9, qR2_9⟩ := XR_9.2.1 2 (by omega)
        have fR_9 := XR_9.2.2; have lR_9 := XR_9.1
        obtain ⟨zE0_9, qE0_9⟩ := XE_9.2.1 0 (by omega)
        obtain ⟨zE1_9, qE1_9⟩ := XE_9.2.1 1 (by omega)
        obtain ⟨zE2_9, qE2_9⟩ := XE_9.2.1 2 (by omega)
        have fE_9 := XE_9.2.2; have lE_9 := XE_9.1
        cases r9
        · skip
          go_wp2_with fail
          all_goals
            go_meet
            exact ⟨CurAt.mono (K := K + 2 + 2 + 2 + 2 + 2 + 2 + 2 + 2 + 2) (by (repeat' (first | assumption | (with_reducible refine CurAt.alloc ?_ _) | (with_reducible refine CurAt.set ?_ (by first | omega | (simp; done) | (simp; omega)) _) | (with_reducible refine CurAt.drewN ?_ _) | (with_reducible refine CurAt.drew ?_)))) (by omega), by (repeat' (first | assumption | (with_reducible exact IBox.made (by first | rfl | (simp; done)) rfl rfl) | (with_reducible refine IBox.alloc ?_ _) | (with_reducible refine IBox.setI ?_ _ _) | (with_reducible refine IBox.drewN ?_ _))), by (repeat' (first | assumption | (with_reducible exact IBox.made (by first | rfl | (simp; done)) rfl rfl) | (with_reducible refine IBox.alloc ?_ _) | (with_reducible refine IBox.setI ?_ _ _) | (with_reducible refine IBox.drewN ?_ _))), by (repeat' (first | (with_reducible exact ChgS.refl _ _) | (with_reducible assumption) | (with_reducible refine ChgS.alloc ?_ _) | (with_reducible refine ChgS.setN ?_ (.inr (by first | omega | (simp; done) | (simp; omega))) _) | (with_reducible refine ChgS.drewNX ?_ _) | (refine ChgS.then2 (by assumption) ?_)))⟩
        · skip
          go_wp2_with fail
          all_goals
            go_meet
            exact ⟨CurAt.mono (K := K + 2 + 2 + 2 + 2 + 2 + 2 + 2 + 2 + 2) (by (repeat' (first | assumption | (with_reducible refine CurAt.alloc ?_ _) | (with_reducible refine CurAt.set ?_ (by first | omega | (simp; done) | (simp; omega)) _) | (with_reducible refine CurAt.drewN ?_ _) | (with_reducible refine CurAt.drew ?_)))) (by omega), by (repeat' (first | assumption | (with_reducible exact IBox.made (by first | rfl | (simp; done)) rfl rfl) | (with_reducible refine IBox.alloc ?_ _) | (with_reducible refine IBox.setI ?_ _ _) | (with_reducible refine IBox.drewN ?_ _))), by (repeat' (first | assumption | (with_reducible exact IBox.made (by first | rfl | (simp; done)) rfl rfl) | (with_reducible refine IBox.alloc ?_ _) | (with_reducible refine IBox.setI ?_ _ _) | (with_reducible refine IBox.drewN ?_ _))), by (repeat' (first | (with_reducible exact ChgS.refl _ _) | (with_reducible assumption) | (with_reducible refine ChgS.alloc ?_ _) | (with_reducible refine ChgS.setN ?_ (.inr (by first | omega | (simp; done) | (simp; omega))) _) | (with_reducible refine ChgS.drewNX ?_ _) | (refine ChgS.then2 (by assumption) ?_)))⟩
      · have hq7_1 : (r7 == 1) = false := by simpa using hs7_1
        by_cases hs7_2 : r7 = 2
        · subst hs7_2
          go_wp2_with fail
          refine (amongC (K := K + 2 + 2 + 2 + 2 + 2 + 2 + 2) ?_ ?_ ?_ ?_ ?_ ?_ ?_).mono ?_
          · (repeat' (first | assumption | (with_reducible refine CurAt.alloc ?_ _) | (with_reducible refine CurAt.set ?_ (by first | omega | (simp; done) | (simp; omega)) _) | (with_reducible refine CurAt.drewN ?_ _) | (with_reducible refine CurAt.drew ?_)))
          · omega
          · (first | rfl | (simp; done))
          · rfl
          · (simp; done)
          · (simp; done)
          · rfl
          rintro e8 w8 ⟨r8, rm8, rfl, hc8, hg8⟩
          clear rm8
          have hz8 := hg8.size
          (try simp only [World.size_alloc, World.size_setCell, World.size_drew, World.heap_drewN] at hz8)
          have XR_8 : IBox w8 (w.heap.size) 3 := by
            refine IBox.chg ?_ hg8 (by show ¬ _ = _; omega)
            (repeat' (first | assumption | (with_reducible exact IBox.made (by first | rfl | (simp; done)) rfl rfl) | (with_reducible refine IBox.alloc ?_ _) | (with_reducible refine IBox.setI ?_ _ _) | (with_reducible refine IBox.drewN ?_ _)))
          have XE_8 : IBox w8 (w6.heap.size) 3 := by
            refine IBox.chg ?_ hg8 (by show ¬ _ = _; omega)
            (repeat' (first | assumption | (with_reducible exact IBox.made (by first | rfl | (simp; done)) rfl rfl) | (with_reducible refine IBox.alloc ?_ _) | (with_reducible refine IBox.setI ?_ _ _) | (with_reducible refine IBox.drewN ?_ _)))
          clear qR0_7 qR1_7 qR2_7 fR_7 XR_7 qE0_7 qE1_7 qE2_7 fE_7 XE_7
          clear hc7
          obtain ⟨zR0_8, qR0_8⟩ := XR_8.2.1 0 (by omega)
          obtain ⟨zR1_8, qR1_8⟩ := XR_8.2.1 1 (by omega)
          obtain ⟨zR2_8, qR2_8⟩ := XR_8.2.1 2 (by omega)
          have fR_8 := XR_8.2.2; have lR_8 := XR_8.1
          obtain ⟨zE0_8, qE0_8⟩ := XE_8.2.1 0 (by omega)
          obtain ⟨zE1_8, qE1_8⟩ := XE_8.2.1 1 (by omega)
          obtain ⟨zE2_8, qE2_8⟩ := XE_8.2.1 2 (by omega)
          have fE_8 := XE_8.2.2; have lE_8 := XE_8.1
          go_wp2_with fail
          all_goals
            go_meet
            exact ⟨CurAt.mono (K := K + 2 + 2 + 2 + 2 + 2 + 2 + 2 + 2) (by (repeat' (first | assumption | (with_reducible refine CurAt.alloc ?_ _) | (with_reducible refine CurAt.set ?_ (by first | omega | (simp; done) | (simp; omega)) _) | (with_reducible refine CurAt.drewN ?_ _) | (with_reducible refine CurAt.drew ?_)))) (by omega), by (repeat' (first | assumption | (with_reducible exact IBox.made (by first | rfl | (simp; done)) rfl rfl) | (with_reducible refine IBox.alloc ?_ _) | (with_reducible refine IBox.setI ?_ _ _) | (with_reducible refine IBox.drewN ?_ _))), by (repeat' (first | assumption | (with_reducible exact IBox.made (by first | rfl | (simp; done)) rfl rfl) | (with_reducible refine IBox.alloc ?_ _) | (with_reducible refine IBox.setI ?_ _ _) | (with_reducible refine IBox.drewN ?_ _))), by (repeat' (first | (with_reducible exact ChgS.refl _ _) | (with_reducible assumption) | (with_reducible refine ChgS.alloc ?_ _) | (with_reducible refine ChgS.setN ?_ (.inr (by first | omega | (simp; done) | (simp; omega))) _) | (with_reducible refine ChgS.drewNX ?_ _) | (refine ChgS.then2 (by assumption) ?_)))⟩
        · have hq7_2 : (r7 == 2) = false := by simpa using hs7_2
          by_cases hs7_3 : r7 = 3
          · subst hs7_3
            go_wp2_with fail
            refine (pickC (K := K + 2 + 2 + 2 + 2 + 2 + 2 + 2) ?_ ?_ ?_ ?_).mono ?_
            · (repeat' (first | assumption | (with_reducible refine CurAt.alloc ?_ _) | (with_reducible refine CurAt.set ?_ (by first | omega | (simp; done) | (simp; omega)) _) | (with_reducible refine CurAt.drewN ?_ _) | (with_reducible refine CurAt.drew ?_)))
            · omega
            · omega
            · omega
            rintro e8 w8 ⟨r8, rfl, ra8, rb8, hc8, hg8⟩
            have hz8 := hg8.size
            (try simp only [World.size_alloc, World.size_setCell, World.size_drew, World.heap_drewN] at hz8)
            have XR_8 : IBox w8 (w.heap.size) 3 := by
              refine IBox.chg ?_ hg8 (by show ¬ _ = _; omega)
              (repeat' (first | assumption | (with_reducible exact IBox.made (by first | rfl | (simp; done)) rfl rfl) | (with_reducible refine IBox.alloc ?_ _) | (with_reducible refine IBox.setI ?_ _ _) | (with_reducible refine IBox.drewN ?_ _)))
            have XE_8 : IBox w8 (w6.heap.size) 3 := by
              refine IBox.chg ?_ hg8 (by show ¬ _ = _; omega)
              (repeat' (first | assumption | (with_reducible exact IBox.made (by first | rfl | (simp; done)) rfl rfl) | (with_reducible refine IBox.alloc ?_ _) | (with_reducible refine IBox.setI ?_ _ _) | (with_reducible refine IBox.drewN ?_ _)))
            clear qR0_7 qR1_7 qR2_7 fR_7 XR_7 qE0_7 qE1_7 qE2_7 fE_7 XE_7
            clear hc7
            obtain ⟨zR0_8, qR0_8⟩ := XR_8.2.1 0 (by omega)
            obtain ⟨zR1_8, qR1_8⟩ := XR_8.2.1 1 (by omega)
            obtain ⟨zR2_8, qR2_8⟩ := XR_8.2.1 2 (by omega)
            have fR_8 := XR_8.2.2; have lR_8 := XR_8.1
            obtain ⟨zE0_8, qE0_8⟩ := XE_8.2.1 0 (by omega)
            obtain ⟨zE1_8, qE1_8⟩ := XE_8.2.1 1 (by omega)
            obtain ⟨zE2_8, qE2_8⟩ := XE_8.2.1 2 (by omega)
            have fE_8 := XE_8.2.2; have lE_8 := XE_8.1
            go_wp2_with fail
            refine (pickC (K := K + 2 + 2 + 2 + 2 + 2 + 2 + 2 + 2) ?_ ?_ ?_ ?_).mono ?_
            · (repeat' (first | assumption | (with_reducible refine CurAt.alloc ?_ _) | (with_reducible refine CurAt.set ?_ (by first | omega | (simp; done) | (simp; omega)) _) | (with_reducible refine CurAt.drewN ?_ _) | (with_reducible refine CurAt.drew ?_)))
            · omega
            · omega
            · omega
            rintro e9 w9 ⟨r9, rfl, ra9, rb9, hc9, hg9⟩
            have hz9 := hg9.size
            (try simp only [World.size_alloc, World.size_setCell, World.size_drew, World.heap_drewN] at hz9)
            have XR_9 : IBox w9 (w.heap.size) 3 := by
              refine IBox.chg ?_ hg9 (by show ¬ _ = _; omega)
              (repeat' (first | assumption | (with_reducible exact IBox.made (by first | rfl | (simp; done)) rfl rfl) | (with_reducible refine IBox.alloc ?_ _) | (with_reducible refine IBox.setI ?_ _ _) | (with_reducible refine IBox.drewN ?_ _)))
            have XE_9 : IBox w9 (w6.heap.size) 3 := by
              refine IBox.chg ?_ hg9 (by show ¬ _ = _; omega)
              (repeat' (first | assumption | (with_reducible exact IBox.made (by first | rfl | (simp; done)) rfl rfl) | (with_reducible refine IBox.alloc ?_ _) | (with_reducible refine IBox.setI ?_ _ _) | (with_reducible refine IBox.drewN ?_ _)))
            clear qR0_8 qR1_8 qR2_8 fR_8 XR_8 qE0_8 qE1_8 qE2_8 fE_8 XE_8
            clear hc8
            obtain ⟨zR0_9, qR0_9⟩ := XR_9.2.1 0 (by omega)
            obtain ⟨zR1_9, qR1_9⟩ := XR_9.2.1 1 (by omega)
            obtain ⟨zR2_9, qR2_9⟩ := XR_9.2.1 2 (by omega)
            have fR_9 := XR_9.2.2; have lR_9 := XR_9.1
            obtain ⟨zE0_9, qE0_9⟩ := XE_9.2.1 0 (by omega)
            obtain ⟨zE1_9, qE1_9⟩ := XE_9.2.1 1 (by omega)
            obtain ⟨zE2_9, qE2_9⟩ := XE_9.2.1 2 (by omega)
            have fE_9 := XE_9.2.2; have lE_9 := XE_9.1
            go_wp2_with fail
            all_goals
              go_meet
              exact ⟨CurAt.mono (K := K + 2 + 2 + 2 + 2 + 2 + 2 + 2 + 2 + 2) (by (repeat' (first | assumption | (with_reducible refine CurAt.alloc ?_ _) | (with_reducible refine CurAt.set ?_ (by first | omega | (simp; done) | (simp; omega)) _) | (with_reducible refine CurAt.drewN ?_ _) | (with_reducible refine CurAt.drew ?_)))) (by omega), by (repeat' (first | assumption | (with_reducible exact IBox.made (by first | rfl | (simp; done)) rfl rfl) | (with_reducible refine IBox.alloc ?_ _) | (with_reducible refine IBox.setI ?_ _ _) | (with_reducible refine IBox.drewN ?_ _))), by (repeat' (first | assumption | (with_reducible exact IBox.made (by first | rfl | (simp; done)) rfl rfl) | (with_reducible refine IBox.alloc ?_ _) | (with_reducible refine IBox.setI ?_ _ _) | (with_reducible refine IBox.drewN ?_ _))), by (repeat' (first | (with_reducible exact ChgS.refl _ _) | (with_reducible assumption) | (with_reducible refine ChgS.alloc ?_ _) | (with_reducible refine ChgS.setN ?_ (.inr (by first | omega | (simp; done) | (simp; omega))) _) | (with_reducible refine ChgS.drewNX ?_ _) | (refine ChgS.then2 (by assumption) ?_)))⟩
          · have hq7_3 : (r7 == 3) = false := by simpa using hs7_3
            go_wp2_with fail
            all_goals
              go_meet
              exact ⟨CurAt.mono (K := K + 2 + 2 + 2 + 2 + 2 + 2 + 2) (by (repeat' (first | assumption | (with_reducible refine CurAt.alloc ?_ _) | (with_reducible refine CurAt.set ?_ (by first | omega | (simp; done) | (simp; omega)) _) | (with_reducible refine CurAt.drewN ?_ _) | (with_reducible refine CurAt.drew ?_)))) (by omega), by (repeat' (first | assumption | (with_reducible exact IBox.made (by first | rfl | (simp; done)) rfl rfl) | (with_reducible refine IBox.alloc ?_ _) | (with_reducible refine IBox.setI ?_ _ _) | (with_reducible refine IBox.drewN ?_ _))), by (repeat' (first | assumption | (with_reducible exact IBox.made (by first | rfl | (simp; done)) rfl rfl) | (with_reducible refine IBox.alloc ?_ _) | (with_reducible refine IBox.setI ?_ _ _) | (with_reducible refine IBox.drewN ?_ _))), by (repeat' (first | (with_reducible exact ChgS.refl _ _) | (with_reducible assumption) | (with_reducible refine ChgS.alloc ?_ _) | (with_reducible refine ChgS.setN ?_ (.inr (by first | omega | (simp; done) | (simp; omega))) _) | (with_reducible refine ChgS.drewNX ?_ _) | (refine ChgS.then2 (by assumption) ?_)))⟩
  case rest =>
    obtain ⟨hc8, XR_8, XE_8, hg8⟩ := hcut
    have hz8 := hg8.size
    clear qR0_7 qR1_7 qR2_7 fR_7 XR_7 qE0_7 qE1_7 qE2_7 fE_7 XE_7
    clear hc7
    obtain ⟨zR0_8, qR0_8⟩ := XR_8.2.1 0 (by omega)
    obtain ⟨zR1_8, qR1_8⟩ := XR_8.2.1 1 (by omega)
    obtain ⟨zR2_8, qR2_8⟩ := XR_8.2.1 2 (by omega)
    have fR_8 := XR_8.2.2; have lR_8 := XR_8.1
    obtain ⟨zE0_8, qE0_8⟩ := XE_8.2.1 0 (by omega)
    obtain ⟨zE1_8, qE1_8⟩ := XE_8.2.1 1 (by omega)
    obtain ⟨zE2_8, qE2_8⟩ := XE_8.2.1 2 (by omega)
    have fE_8 := XE_8.2.2; have lE_8 := XE_8.1
    go_wp2_with fail
    refine name_worldC (fun V9 hV9 => ?_)
    have hcV9 : CurAt V9 b (K + 2 + 2 + 2 + 2 + 2 + 2 + 2 + 6) := by subst hV9; (repeat' (first | assumption | (with_reducible refine CurAt.alloc ?_ _) | (with_reducible refine CurAt.set ?_ (by first | omega | (simp; done) | (simp; omega)) _) | (with_reducible refine CurAt.drewN ?_ _) | (with_reducible refine CurAt.drew ?_)))
    have hgV9 : ChgS (fun k => k = b) w V9 := by subst hV9; (repeat' (first | (with_reducible exact ChgS.refl _ _) | (with_reducible assumption) | (with_reducible refine ChgS.alloc ?_ _) | (with_reducible refine ChgS.setN ?_ (.inr (by first | omega | (simp; done) | (simp; omega))) _) | (with_reducible refine ChgS.drewNX ?_ _) | (refine ChgS.then2 (by assumption) ?_)))
    have YR_9 : IBox V9 (w.heap.size) 3 := by subst hV9; (repeat' (first | assumption | (with_reducible exact IBox.made (by first | rfl | (simp; done)) rfl rfl) | (with_reducible refine IBox.alloc ?_ _) | (with_reducible refine IBox.setI ?_ _ _) | (with_reducible refine IBox.drewN ?_ _)))
    have YE_9 : IBox V9 (w6.heap.size) 3 := by subst hV9; (repeat' (first | assumption | (with_reducible exact IBox.made (by first | rfl | (simp; done)) rfl rfl) | (with_reducible refine IBox.alloc ?_ _) | (with_reducible refine IBox.setI ?_ _ _) | (with_reducible refine IBox.drewN ?_ _)))
    clear hV9
    refine ((loGood_any _ _ _ _).mono (fun _ _ h => GB.of h)).mono ?_
    rintro e9 w9 ⟨r9, rfl, hb9⟩
    have hg9 := hgV9.trans (ChgS.of_below (S := fun k => k = b) hb9)
    have hc9 := hcV9.below hb9
    have hz9 := hg9.size
    (try simp only [World.size_alloc, World.size_setCell, World.size_drew, World.heap_drewN] at hz9)
    have XR_9 := YR_9.below hb9
    have XE_9 := YE_9.below hb9
    clear hcV9 YR_9 YE_9
    clear qR0_8 qR1_8 qR2_8 fR_8 XR_8 qE0_8 qE1_8 qE2_8 fE_8 XE_8
    clear hc8
    obtain ⟨zR0_9, qR0_9⟩ := XR_9.2.1 0 (by omega)
    obtain ⟨zR1_9, qR1_9⟩ := XR_9.2.1 1 (by omega)
    obtain ⟨zR2_9, qR2_9⟩ := XR_9.2.1 2 (by omega)
    have fR_9 := XR_9.2.2; have lR_9 := XR_9.1
    obtain ⟨zE0_9, qE0_9⟩ := XE_9.2.1 0 (by omega)
    obtain ⟨zE1_9, qE1_9⟩ := XE_9.2.1 1 (by omega)
    obtain ⟨zE2_9, qE2_9⟩ := XE_9.2.1 2 (by omega)
    have fE_9 := XE_9.2.2; have lE_9 := XE_9.1
    cases r9
    · skip
      go_wp2_with fail
      refine name_worldB (fun WF hWF => ?_)
      have XF : IBox WF (w.heap.size) 3 := by subst hWF; (repeat' (first | assumption | (with_reducible exact IBox.made (by first | rfl | (simp; done)) rfl rfl) | (with_reducible refine IBox.alloc ?_ _) | (with_reducible refine IBox.setI ?_ _ _) | (with_reducible refine IBox.drewN ?_ _)))
      have hCF : CurAt WF b (K + 2 + 2 + 2 + 2 + 2 + 2 + 2 + 6) := by subst hWF; (repeat' (first | assumption | (with_reducible refine CurAt.alloc ?_ _) | (with_reducible refine CurAt.set ?_ (by first | omega | (simp; done) | (simp; omega)) _) | (with_reducible refine CurAt.drewN ?_ _) | (with_reducible refine CurAt.drew ?_)))
      have hGF : ChgS (fun k => k = b) w WF := by subst hWF; (repeat' (first | (with_reducible exact ChgS.refl _ _) | (with_reducible assumption) | (with_reducible refine ChgS.alloc ?_ _) | (with_reducible refine ChgS.setN ?_ (.inr (by first | omega | (simp; done) | (simp; omega))) _) | (with_reducible refine ChgS.drewNX ?_ _) | (refine ChgS.then2 (by assumption) ?_)))
      clear hWF
      obtain ⟨x0, k0⟩ := XF.2.1 0 (by omega)
      obtain ⟨x1, k1⟩ := XF.2.1 1 (by omega)
      obtain ⟨x2, k2⟩ := XF.2.1 2 (by omega)
      have kl := XF.1
      refine bodyPost_ret (v := .agg #[.int .i64 x0, .int .i64 x1, .int .i64 x2]) (by simp [results, Try.results92, go_sem, kl, k0, k1, k2]) rfl ?_
      exact ⟨x0, x1, x2, rfl, hCF.mono (by omega), hGF⟩
    · skip
      go_wp2_with fail
      refine name_worldB (fun WF hWF => ?_)
      have XF : IBox WF (w.heap.size) 3 := by subst hWF; (repeat' (first | assumption | (with_reducible exact IBox.made (by first | rfl | (simp; done)) rfl rfl) | (with_reducible refine IBox.alloc ?_ _) | (with_reducible refine IBox.setI ?_ _ _) | (with_reducible refine IBox.drewN ?_ _)))
      have hCF : CurAt WF b (K + 2 + 2 + 2 + 2 + 2 + 2 + 2 + 6) := by subst hWF; (repeat' (first | assumption | (with_reducible refine CurAt.alloc ?_ _) | (with_reducible refine CurAt.set ?_ (by first | omega | (simp; done) | (simp; omega)) _) | (with_reducible refine CurAt.drewN ?_ _) | (with_reducible refine CurAt.drew ?_)))
      have hGF : ChgS (fun k => k = b) w WF := by subst hWF; (repeat' (first | (with_reducible exact ChgS.refl _ _) | (with_reducible assumption) | (with_reducible refine ChgS.alloc ?_ _) | (with_reducible refine ChgS.setN ?_ (.inr (by first | omega | (simp; done) | (simp; omega))) _) | (with_reducible refine ChgS.drewNX ?_ _) | (refine ChgS.then2 (by assumption) ?_)))
      clear hWF
      obtain ⟨x0, k0⟩ := XF.2.1 0 (by omega)
      obtain ⟨x1, k1⟩ := XF.2.1 1 (by omega)
      obtain ⟨x2, k2⟩ := XF.2.1 2 (by omega)
      have kl := XF.1
      refine bodyPost_ret (v := .agg #[.int .i64 x0, .int .i64 x1, .int .i64 x2]) (by simp [results, Try.results92, go_sem, kl, k0, k1, k2]) rfl ?_
      exact ⟨x0, x1, x2, rfl, hCF.mono (by omega), hGF⟩

set_option maxRecDepth 100000 in
set_option maxHeartbeats 4000000 in
theorem anyQuarticC {b K : Nat} {w : World} (h : CurAt w b K) (hK : K ≤ 10000000) : Calls Try.prog 48 #[.pointer (some ⟨b, 0, none⟩)] w (GR3 b (K + 40) w) := by
  have hblt := h.lt
  unfold GR3
  go_enter Try.func48, Try.ntmps48
  go_wp2_with fail
  refine (quarticC (K := K) ?_ ?_).mono ?_
  · (repeat' (first | assumption | (with_reducible refine CurAt.alloc ?_ _) | (with_reducible refine CurAt.set ?_ (by first | omega | (simp; done) | (simp; omega)) _) | (with_reducible refine CurAt.drewN ?_ _) | (with_reducible refine CurAt.drew ?_)))
  · omega
  rintro e1 w1 ⟨x1, y1, u1, rfl, hc1, hg1⟩
  have hz1 := hg1.size
  (try simp only [World.size_alloc, World.size_setCell, World.size_drew, World.heap_drewN] at hz1)
  have XR_1 : IBox w1 (w.heap.size) 3 := by
    refine IBox.chg ?_ hg1 (by show ¬ _ = _; omega)
    (repeat' (first | assumption | (with_reducible exact IBox.made (by first | rfl | (simp; done)) rfl rfl) | (with_reducible refine IBox.alloc ?_ _) | (with_reducible refine IBox.setI ?_ _ _) | (with_reducible refine IBox.drewN ?_ _)))
  obtain ⟨zR0_1, qR0_1⟩ := XR_1.2.1 0 (by omega)
  obtain ⟨zR1_1, qR1_1⟩ := XR_1.2.1 1 (by omega)
  obtain ⟨zR2_1, qR2_1⟩ := XR_1.2.1 2 (by omega)
  have fR_1 := XR_1.2.2; have lR_1 := XR_1.1
  go_wp2_with fail
  refine (pickC (K := K + 30) ?_ ?_ ?_ ?_).mono ?_
  · (repeat' (first | assumption | (with_reducible refine CurAt.alloc ?_ _) | (with_reducible refine CurAt.set ?_ (by first | omega | (simp; done) | (simp; omega)) _) | (with_reducible refine CurAt.drewN ?_ _) | (with_reducible refine CurAt.drew ?_)))
  · omega
  · omega
  · omega
  rintro e2 w2 ⟨r2, rfl, ra2, rb2, hc2, hg2⟩
  have hz2 := hg2.size
  (try simp only [World.size_alloc, World.size_setCell, World.size_drew, World.heap_drewN] at hz2)
  have XR_2 : IBox w2 (w.heap.size) 3 := by
    refine IBox.chg ?_ hg2 (by show ¬ _ = _; omega)
    (repeat' (first | assumption | (with_reducible exact IBox.made (by first | rfl | (simp; done)) rfl rfl) | (with_reducible refine IBox.alloc ?_ _) | (with_reducible refine IBox.setI ?_ _ _) | (with_reducible refine IBox.drewN ?_ _)))
  have XE_2 : IBox w2 (w1.heap.size) 3 := by
    refine IBox.chg ?_ hg2 (by show ¬ _ = _; omega)
    (repeat' (first | assumption | (with_reducible exact IBox.made (by first | rfl | (simp; done)) rfl rfl) | (with_reducible refine IBox.alloc ?_ _) | (with_reducible refine IBox.setI ?_ _ _) | (with_reducible refine IBox.drewN ?_ _)))
  clear qR0_1 qR1_1 qR2_1 fR_1 XR_1
  clear hc1
  obtain ⟨zR0_2, qR0_2⟩ := XR_2.2.1 0 (by omega)
  obtain ⟨zR1_2, qR1_2⟩ := XR_2.2.1 1 (by omega)
  obtain ⟨zR2_2, qR2_2⟩ := XR_2.2.1 2 (by omega)
  have fR_2 := XR_2.2.2; have lR_2 := XR_2.1
  obtain ⟨zE0_2, qE0_2⟩ := XE_2.2.1 0 (by omega)
  obtain ⟨zE1_2, qE1_2⟩ := XE_2.2.1 1 (by omega)
  obtain ⟨zE2_2, qE2_2⟩ := XE_2.2.1 2 (by omega)
  have fE_2 := XE_2.2.2; have lE_2 := XE_2.1
  by_cases hs2_0 : r2 = 0
  · subst hs2_0
    go_wp2_with fail
    refine (amongC (K := K + 30 + 2) ?_ ?_ ?_ ?_ ?_ ?_ ?_).mono ?_
    · (repeat' (first | assumption | (with_reducible refine CurAt.alloc ?_ _) | (with_reducible refine CurAt.set ?_ (by first | omega | (simp; done) | (simp; omega)) _) | (with_reducible refine CurAt.drewN ?_ _) | (with_reducible refine CurAt.drew ?_)))
    · omega
    · (first | rfl | (simp; done))
    · rfl
    · (simp; done)
    · (simp; done)
    · rfl
    rintro e3 w3 ⟨r3, rm3, rfl, hc3, hg3⟩
    clear rm3
    have hz3 := hg3.size
    (try simp only [World.size_alloc, World.size_setCell, World.size_drew, World.heap_drewN] at hz3)
    have XR_3 : IBox w3 (w.heap.size) 3 := by
      refine IBox.chg ?_ hg3 (by show ¬ _ = _; omega)
      (repeat' (first | assumption | (with_reducible exact IBox.made (by first | rfl | (simp; done)) rfl rfl) | (with_reducible refine IBox.alloc ?_ _) | (with_reducible refine IBox.setI ?_ _ _) | (with_reducible refine IBox.drewN ?_ _)))
    have XE_3 : IBox w3 (w1.heap.size) 3 := by
      refine IBox.chg ?_ hg3 (by show ¬ _ = _; omega)
      (repeat' (first | assumption | (with_reducible exact IBox.made (by first | rfl | (simp; done)) rfl rfl) | (with_reducible refine IBox.alloc ?_ _) | (with_reducible refine IBox.setI ?_ _ _) | (with_reducible refine IBox.drewN ?_ _)))
    clear qR0_2 qR1_2 qR2_2 fR_2 XR_2 qE0_2 qE1_2 qE2_2 fE_2 XE_2
    clear hc2
    obtain ⟨zR0_3, qR0_3⟩ := XR_3.2.1 0 (by omega)
    obtain ⟨zR1_3, qR1_3⟩ := XR_3.2.1 1 (by omega)
    obtain ⟨zR2_3, qR2_3⟩ := XR_3.2.1 2 (by omega)
    have fR_3 := XR_3.2.2; have lR_3 := XR_3.1
    obtain ⟨zE0_3, qE0_3⟩ := XE_3.2.1 0 (by omega)
    obtain ⟨zE1_3, qE1_3⟩ := XE_3.2.1 1 (by omega)
    obtain ⟨zE2_3, qE2_3⟩ := XE_3.2.1 2 (by omega)
    have fE_3 := XE_3.2.2; have lE_3 := XE_3.1
    go_wp2_with fail
    refine name_worldB (fun WF hWF => ?_)
    have XF : IBox WF (w.heap.size) 3 := by subst hWF; (repeat' (first | assumption | (with_reducible exact IBox.made (by first | rfl | (simp; done)) rfl rfl) | (with_reducible refine IBox.alloc ?_ _) | (with_reducible refine IBox.setI ?_ _ _) | (with_reducible refine IBox.drewN ?_ _)))
    have hCF : CurAt WF b (K + 30 + 2 + 2) := by subst hWF; (repeat' (first | assumption | (with_reducible refine CurAt.alloc ?_ _) | (with_reducible refine CurAt.set ?_ (by first | omega | (simp; done) | (simp; omega)) _) | (with_reducible refine CurAt.drewN ?_ _) | (with_reducible refine CurAt.drew ?_)))
    have hGF : ChgS (fun k => k = b) w WF := by subst hWF; (repeat' (first | (with_reducible exact ChgS.refl _ _) | (with_reducible assumption) | (with_reducible refine ChgS.alloc ?_ _) | (with_reducible refine ChgS.setN ?_ (.inr (by first | omega | (simp; done) | (simp; omega))) _) | (with_reducible refine ChgS.drewNX ?_ _) | (refine ChgS.then2 (by assumption) ?_)))
    clear hWF
    obtain ⟨x0, k0⟩ := XF.2.1 0 (by omega)
    obtain ⟨x1, k1⟩ := XF.2.1 1 (by omega)
    obtain ⟨x2, k2⟩ := XF.2.1 2 (by omega)
    have kl := XF.1
    refine bodyPost_ret (v := .agg #[.int .i64 x0, .int .i64 x1, .int .i64 x2]) (by simp [results, Try.results48, go_sem, kl, k0, k1, k2]) rfl ?_
    exact ⟨x0, x1, x2, rfl, hCF.mono (by omega), hGF⟩
  · have hq2_0 : (r2 == 0) = false := by simpa using hs2_0
    by_cases hs2_1 : r2 = 1
    · subst hs2_1
      go_wp2_with fail
      refine (amongC (K := K + 30 + 2) ?_ ?_ ?_ ?_ ?_ ?_ ?_).mono ?_
      · (repeat' (first | assumption | (with_reducible refine CurAt.alloc ?_ _) | (with_reducible refine CurAt.set ?_ (by first | omega | (simp; done) | (simp; omega)) _) | (with_reducible refine CurAt.drewN ?_ _) | (with_reducible refine CurAt.drew ?_)))
      · omega
      · (first | rfl | (simp; done))
      · rfl
      · (simp; done)
      · (simp; done)
      · rfl
      rintro e3 w3 ⟨r3, rm3, rfl, hc3, hg3⟩
      clear rm3
      have hz3 := hg3.size
      (try simp only [World.size_alloc, World.size_setCell, World.size_drew, World.heap_drewN] at hz3)
      have XR_3 : IBox w3 (w.heap.size) 3 := by
        refine IBox.chg ?_ hg3 (by show ¬ _ = _; omega)
        (repeat' (first | assumption | (with_reducible exact IBox.made (by first | rfl | (simp; done)) rfl rfl) | (with_reducible refine IBox.alloc ?_ _) | (with_reducible refine IBox.setI ?_ _ _) | (with_reducible refine IBox.drewN ?_ _)))
      have XE_3 : IBox w3 (w1.heap.size) 3 := by
        refine IBox.chg ?_ hg3 (by show ¬ _ = _; omega)
        (repeat' (first | assumption | (with_reducible exact IBox.made (by first | rfl | (simp; done)) rfl rfl) | (with_reducible refine IBox.alloc ?_ _) | (with_reducible refine IBox.setI ?_ _ _) | (with_reducible refine IBox.drewN ?_ _)))
      clear qR0_2 qR1_2 qR2_2 fR_2 XR_2 qE0_2 qE1_2 qE2_2 fE_2 XE_2
      clear hc2
      obtain ⟨zR0_3, qR0_3⟩ := XR_3.2.1 0 (by omega)
      obtain ⟨zR1_3, qR1_3⟩ := XR_3.2.1 1 (by omega)
      obtain ⟨zR2_3, qR2_3⟩ := XR_3.2.1 2 (by omega)
      have fR_3 := XR_3.2.2; have lR_3 := XR_3.1
      obtain ⟨zE0_3, qE0_3⟩ := XE_3.2.1 0 (by omega)
      obtain ⟨zE1_3, qE1_3⟩ := XE_3.2.1 1 (by omega)
      obtain ⟨zE2_3, qE2_3⟩ := XE_3.2.1 2 (by omega)
      have fE_3 := XE_3.2.2; have lE_3 := XE_3.1
      go_wp2_with fail
      refine name_worldB (fun WF hWF => ?_)
      have XF : IBox WF (w.heap.size) 3 := by subst hWF; (repeat' (first | assumption | (with_reducible exact IBox.made (by first | rfl | (simp; done)) rfl rfl) | (with_reducible refine IBox.alloc ?_ _) | (with_reducible refine IBox.setI ?_ _ _) | (with_reducible refine IBox.drewN ?_ _)))
      have hCF : CurAt WF b (K + 30 + 2 + 2) := by subst hWF; (repeat' (first | assumption | (with_reducible refine CurAt.alloc ?_ _) | (with_reducible refine CurAt.set ?_ (by first | omega | (simp; done) | (simp; omega)) _) | (with_reducible refine CurAt.drewN ?_ _) | (with_reducible refine CurAt.drew ?_)))
      have hGF : ChgS (fun k => k = b) w WF := by subst hWF; (repeat' (first | (with_reducible exact ChgS.refl _ _) | (with_reducible assumption) | (with_reducible refine ChgS.alloc ?_ _) | (with_reducible refine ChgS.setN ?_ (.inr (by first | omega | (simp; done) | (simp; omega))) _) | (with_reducible refine ChgS.drewNX ?_ _) | (refine ChgS.then2 (by assumption) ?_)))
      clear hWF
      obtain ⟨x0, k0⟩ := XF.2.1 0 (by omega)
      obtain ⟨x1, k1⟩ := XF.2.1 1 (by omega)
      obtain ⟨x2, k2⟩ := XF.2.1 2 (by omega)
      have kl := XF.1
      refine bodyPost_ret (v := .agg #[.int .i64 x0, .int .i64 x1, .int .i64 x2]) (by simp [results, Try.results48, go_sem, kl, k0, k1, k2]) rfl ?_
      exact ⟨x0, x1, x2, rfl, hCF.mono (by omega), hGF⟩
    · have hq2_1 : (r2 == 1) = false := by simpa using hs2_1
      by_cases hs2_2 : r2 = 2
      · subst hs2_2
        go_wp2_with fail
        refine (amongC (K := K + 30 + 2) ?_ ?_ ?_ ?_ ?_ ?_ ?_).mono ?_
        · (repeat' (first | assumption | (with_reducible refine CurAt.alloc ?_ _) | (with_reducible refine CurAt.set ?_ (by first | omega | (simp; done) | (simp; omega)) _) | (with_reducible refine CurAt.drewN ?_ _) | (with_reducible refine CurAt.drew ?_)))
        · omega
        · (first | rfl | (simp; done))
        · rfl
        · (simp; done)
        · (simp; done)
        · rfl
        rintro e3 w3 ⟨r3, rm3, rfl, hc3, hg3⟩
        clear rm3
        have hz3 := hg3.size
        (try simp only [World.size_alloc, World.size_setCell, World.size_drew, World.heap_drewN] at hz3)
        have XR_3 : IBox w3 (w.heap.size) 3 := by
          refine IBox.chg ?_ hg3 (by show ¬ _ = _; omega)
          (repeat' (first | assumption | (with_reducible exact IBox.made (by first | rfl | (simp; done)) rfl rfl) | (with_reducible refine IBox.alloc ?_ _) | (with_reducible refine IBox.setI ?_ _ _) | (with_reducible refine IBox.drewN ?_ _)))
        have XE_3 : IBox w3 (w1.heap.size) 3 := by
          refine IBox.chg ?_ hg3 (by show ¬ _ = _; omega)
          (repeat' (first | assumption | (with_reducible exact IBox.made (by first | rfl | (simp; done)) rfl rfl) | (with_reducible refine IBox.alloc ?_ _) | (with_reducible refine IBox.setI ?_ _ _) | (with_reducible refine IBox.drewN ?_ _)))
        clear qR0_2 qR1_2 qR2_2 fR_2 XR_2 qE0_2 qE1_2 qE2_2 fE_2 XE_2
        clear hc2
        obtain ⟨zR0_3, qR0_3⟩ := XR_3.2.1 0 (by omega)
        obtain ⟨zR1_3, qR1_3⟩ := XR_3.2.1 1 (by omega)
        obtain ⟨zR2_3, qR2_3⟩ := XR_3.2.1 2 (by omega)
        have fR_3 := XR_3.2.2; have lR_3 := XR_3.1
        obtain ⟨zE0_3, qE0_3⟩ := XE_3.2.1 0 (by omega)
        obtain ⟨zE1_3, qE1_3⟩ := XE_3.2.1 1 (by omega)
        obtain ⟨zE2_3, qE2_3⟩ := XE_3.2.1 2 (by omega)
        have fE_3 := XE_3.2.2; have lE_3 := XE_3.1
        go_wp2_with fail
        refine name_worldB (fun WF hWF => ?_)
        have XF : IBox WF (w.heap.size) 3 := by subst hWF; (repeat' (first | assumption | (with_reducible exact IBox.made (by first | rfl | (simp; done)) rfl rfl) | (with_reducible refine IBox.alloc ?_ _) | (with_reducible refine IBox.setI ?_ _ _) | (with_reducible refine IBox.drewN ?_ _)))
        have hCF : CurAt WF b (K + 30 + 2 + 2) := by subst hWF; (repeat' (first | assumption | (with_reducible refine CurAt.alloc ?_ _) | (with_reducible refine CurAt.set ?_ (by first | omega | (simp; done) | (simp; omega)) _) | (with_reducible refine CurAt.drewN ?_ _) | (with_reducible refine CurAt.drew ?_)))
        have hGF : ChgS (fun k => k = b) w WF := by subst hWF; (repeat' (first | (with_reducible exact ChgS.refl _ _) | (with_reducible assumption) | (with_reducible refine ChgS.alloc ?_ _) | (with_reducible refine ChgS.setN ?_ (.inr (by first | omega | (simp; done) | (simp; omega))) _) | (with_reducible refine ChgS.drewNX ?_ _) | (refine ChgS.then2 (by assumption) ?_)))
        clear hWF
        obtain ⟨x0, k0⟩ := XF.2.1 0 (by omega)
        obtain ⟨x1, k1⟩ := XF.2.1 1 (by omega)
        obtain ⟨x2, k2⟩ := XF.2.1 2 (by omega)
        have kl := XF.1
        refine bodyPost_ret (v := .agg #[.int .i64 x0, .int .i64 x1, .int .i64 x2]) (by simp [results, Try.results48, go_sem, kl, k0, k1, k2]) rfl ?_
        exact ⟨x0, x1, x2, rfl, hCF.mono (by omega), hGF⟩
      · have hq2_2 : (r2 == 2) = false := by simpa using hs2_2
        go_wp2_with fail
        refine name_worldB (fun WF hWF => ?_)
        have XF : IBox WF (w.heap.size) 3 := by subst hWF; (repeat' (first | assumption | (with_reducible exact IBox.made (by first | rfl | (simp; done)) rfl rfl) | (with_reducible refine IBox.alloc ?_ _) | (with_reducible refine IBox.setI ?_ _ _) | (with_reducible refine IBox.drewN ?_ _)))
        have hCF : CurAt WF b (K + 30 + 2) := by subst hWF; (repeat' (first | assumption | (with_reducible refine CurAt.alloc ?_ _) | (with_reducible refine CurAt.set ?_ (by first | omega | (simp; done) | (simp; omega)) _) | (with_reducible refine CurAt.drewN ?_ _) | (with_reducible refine CurAt.drew ?_)))
        have hGF : ChgS (fun k => k = b) w WF := by subst hWF; (repeat' (first | (with_reducible exact ChgS.refl _ _) | (with_reducible assumption) | (with_reducible refine ChgS.alloc ?_ _) | (with_reducible refine ChgS.setN ?_ (.inr (by first | omega | (simp; done) | (simp; omega))) _) | (with_reducible refine ChgS.drewNX ?_ _) | (refine ChgS.then2 (by assumption) ?_)))
        clear hWF
        obtain ⟨x0, k0⟩ := XF.2.1 0 (by omega)
        obtain ⟨x1, k1⟩ := XF.2.1 1 (by omega)
        obtain ⟨x2, k2⟩ := XF.2.1 2 (by omega)
        have kl := XF.1
        refine bodyPost_ret (v := .agg #[.int .i64 x0, .int .i64 x1, .int .i64 x2]) (by simp [results, Try.results48, go_sem, kl, k0, k1, k2]) rfl ?_
        exact ⟨x0, x1, x2, rfl, hCF.mono (by omega), hGF⟩

set_option maxRecDepth 100000 in
set_option maxHeartbeats 4000000 in
theorem DrawQuarticPointsC {a : Option Addr} {l c : Nat} {w : World} (h : Byts w w.heap.size (.slice a l c)) : Calls Try.prog 7 #[.slice a l c] w (GD3I w) := by
  unfold GD3I
  go_enter Try.func7, Try.ntmps7
  go_wp2_with fail
  refine name_worldC (fun W1 hW1 => ?_)
  have hB1 : Below w.heap.size w W1 := by subst hW1; exact (by repeat' (first | (with_reducible exact Below.refl _ _) | (with_reducible assumption) | (with_reducible refine Below.alloc ?_ ?_ _) | (with_reducible refine Below.setCell ?_ ?_ _) | (with_reducible refine Below.drew ?_) | (with_reducible refine below_drewN ?_ _) | (apply bthen2; (with_reducible assumption)) | go_size))
  have hC1 : CurAt W1 (w.heap.size + 1) 0 := by
    refine CurAt.first (v := .slice a l c) ?_ (by refine Byts.mono (h.below hB1 (Nat.le_refl _)) (by omega))
    subst hW1; exact box_three (by first | omega | (simp; done) | (simp; omega)) (by simp [go_sem]) (by simp [go_sem]) (by simp [go_sem]) (fun o => by simp [go_sem])
  have XR_0 : IBox W1 (w.heap.size) 3 := by subst hW1; (repeat' (first | assumption | (with_reducible exact IBox.made (by first | rfl | (simp; done)) rfl rfl) | (with_reducible refine IBox.alloc ?_ _) | (with_reducible refine IBox.setI ?_ _ _) | (with_reducible refine IBox.drewN ?_ _)))
  have hz0 := hB1.size; have hcl := hC1.lt
  clear hW1
  obtain ⟨zR0_0, qR0_0⟩ := XR_0.2.1 0 (by omega)
  obtain ⟨zR1_0, qR1_0⟩ := XR_0.2.1 1 (by omega)
  obtain ⟨zR2_0, qR2_0⟩ := XR_0.2.1 2 (by omega)
  have fR_0 := XR_0.2.2; have lR_0 := XR_0.1
  go_wp2_with fail
  refine (anyQuarticC (K := 0) ?_ ?_).mono ?_
  · (repeat' (first | assumption | (with_reducible refine CurAt.alloc ?_ _) | (with_reducible refine CurAt.set ?_ (by first | omega | (simp; done) | (simp; omega)) _) | (with_reducible refine CurAt.drewN ?_ _) | (with_reducible refine CurAt.drew ?_)))
  · omega
  rintro e1 w1 ⟨x1, y1, u1, rfl, hc1, hg1⟩
  have hz1 := hg1.size
  (try simp only [World.size_alloc, World.size_setCell, World.size_drew, World.heap_drewN] at hz1)
  have XR_1 : IBox w1 (w.heap.size) 3 := by
    refine IBox.chg ?_ hg1 (by show ¬ _ = _; omega)
    (repeat' (first | assumption | (with_reducible exact IBox.made (by first | rfl | (simp; done)) rfl rfl) | (with_reducible refine IBox.alloc ?_ _) | (with_reducible refine IBox.setI ?_ _ _) | (with_reducible refine IBox.drewN ?_ _)))
  clear qR0_0 qR1_0 qR2_0 fR_0 XR_0
  obtain ⟨zR0_1, qR0_1⟩ := XR_1.2.1 0 (by omega)
  obtain ⟨zR1_1, qR1_1⟩ := XR_1.2.1 1 (by omega)
  obtain ⟨zR2_1, qR2_1⟩ := XR_1.2.1 2 (by omega)
  have fR_1 := XR_1.2.2; have lR_1 := XR_1.1
  go_wp2_with fail
  refine (amongC (K := 0 + 40) ?_ ?_ ?_ ?_ ?_ ?_ ?_).mono ?_
  · (repeat' (first | assumption | (with_reducible refine CurAt.alloc ?_ _) | (with_reducible refine CurAt.set ?_ (by first | omega | (simp; done) | (simp; omega)) _) | (with_reducible refine CurAt.drewN ?_ _) | (with_reducible refine CurAt.drew ?_)))
  · omega
  · (first | rfl | (simp; done))
  · rfl
  · (simp; done)
  · (simp; done)
  · rfl
  rintro e2 w2 ⟨r2, rm2, rfl, hc2, hg2⟩
  clear rm2
  have hz2 := hg2.size
  (try simp only [World.size_alloc, World.size_setCell, World.size_drew, World.heap_drewN] at hz2)
  have XR_2 : IBox w2 (w.heap.size) 3 := by
    refine IBox.chg ?_ hg2 (by show ¬ _ = _; omega)
    (repeat' (first | assumption | (with_reducible exact IBox.made (by first | rfl | (simp; done)) rfl rfl) | (with_reducible refine IBox.alloc ?_ _) | (with_reducible refine IBox.setI ?_ _ _) | (with_reducible refine IBox.drewN ?_ _)))
  clear qR0_1 qR1_1 qR2_1 fR_1 XR_1
  clear hc1
  obtain ⟨zR0_2, qR0_2⟩ := XR_2.2.1 0 (by omega)
  obtain ⟨zR1_2, qR1_2⟩ := XR_2.2.1 1 (by omega)
  obtain ⟨zR2_2, qR2_2⟩ := XR_2.2.1 2 (by omega)
  have fR_2 := XR_2.2.2; have lR_2 := XR_2.1
  go_wp2_with fail
  refine (amongC (K := 0 + 40 + 2) ?_ ?_ ?_ ?_ ?_ ?_ ?_).mono ?_
  · (repeat' (first | assumption | (with_reducible refine CurAt.alloc ?_ _) | (with_reducible refine CurAt.set ?_ (by first | omega | (simp; done) | (simp; omega)) _) | (with_reducible refine CurAt.drewN ?_ _) | (with_reducible refine CurAt.drew ?_)))
  · omega
  · (first | rfl | (simp; done))
  · rfl
  · (simp; done)
  · (simp; done)
  · rfl
  rintro e3 w3 ⟨r3, rm3, rfl, hc3, hg3⟩
  clear rm3
  have hz3 := hg3.size
  (try simp only [World.size_alloc, World.size_setCell, World.size_drew, World.heap_drewN] at hz3)
  have XR_3 : IBox w3 (w.heap.size) 3 := by
    refine IBox.chg ?_ hg3 (by show ¬ _ = _; omega)
    (repeat' (first | assumption | (with_reducible exact IBox.made (by first | rfl | (simp; done)) rfl rfl) | (with_reducible refine IBox.alloc ?_ _) | (with_reducible refine IBox.setI ?_ _ _) | (with_reducible refine IBox.drewN ?_ _)))
  clear qR0_2 qR1_2 qR2_2 fR_2 XR_2
  clear hc2
  obtain ⟨zR0_3, qR0_3⟩ := XR_3.2.1 0 (by omega)
  obtain ⟨zR1_3, qR1_3⟩ := XR_3.2.1 1 (by omega)
  obtain ⟨zR2_3, qR2_3⟩ := XR_3.2.1 2 (by omega)
  have fR_3 := XR_3.2.2; have lR_3 := XR_3.1
  go_wp2_with fail
  refine name_worldB (fun WF hWF => ?_)
  have XF : IBox WF (w.heap.size) 3 := by subst hWF; (repeat' (first | assumption | (with_reducible exact IBox.made (by first | rfl | (simp; done)) rfl rfl) | (with_reducible refine IBox.alloc ?_ _) | (with_reducible refine IBox.setI ?_ _ _) | (with_reducible refine IBox.drewN ?_ _)))
  have hGF : Below w.heap.size w WF := by subst hWF; (repeat' (first | (with_reducible exact Below.refl _ _) | (with_reducible assumption) | (with_reducible refine Below.alloc ?_ ?_ _) | (with_reducible refine Below.setCell ?_ ?_ _) | (with_reducible refine Below.drew ?_) | (with_reducible refine below_drewN ?_ _) | (refine bthenG (by assumption) ?_ ?_ ?_) | (refine bthen3 (by assumption) ?_ ?_) | omega | (simp; done) | (simp; omega)))
  clear hWF
  obtain ⟨x0, k0⟩ := XF.2.1 0 (by omega)
  obtain ⟨x1, k1⟩ := XF.2.1 1 (by omega)
  obtain ⟨x2, k2⟩ := XF.2.1 2 (by omega)
  have kl := XF.1
  refine bodyPost_ret (v := .tuple #[.agg #[.int .i64 x0, .int .i64 x1, .int .i64 x2], .int .i64 r3]) (by simp [results, Try.results7, go_sem, kl, k0, k1, k2]) rfl ?_
  exact ⟨x0, x1, x2, r3, rfl, hGF⟩

end Go.Proofs.Ytelkmldmebdcgaa
