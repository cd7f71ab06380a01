import Derived.Test.YtelkmldmebdcgaaDrA
set_option linter.unusedSimpArgs false
set_option linter.unusedVariables false
namespace Go.Proofs.Ytelkmldmebdcgaa
open Go.RowKit
/-! ### draws -/

theorem Byts.mono {w : World} {b c : Nat} {v : Value} (h : Byts w b v) (hb : b ≤ c) : Byts w c v := by
  obtain ⟨a, len, cap, hv, hl, hc⟩ := h
  refine ⟨a, len, cap, hv, hl, fun i hi => ?_⟩
  obtain ⟨g, off, z, h1, h2, h3⟩ := hc i hi
  exact ⟨g, off, z, h1, by omega, h3⟩

set_option maxRecDepth 100000 in
set_option maxHeartbeats 4000000 in
theorem DrawCurveValueC {a : Option Addr} {l c : Nat} {w : World} (h : Byts w w.heap.size (.slice a l c)) : Calls Try.prog 15 #[.slice a l c] w (GD2I w) := by
  unfold GD2I
  go_enter Try.func15, Try.ntmps15
  go_wp2_with fail
  refine name_worldC (fun W1 hW1 => ?_)
  have hB1 : Below w.heap.size w W1 := by subst hW1; exact (by repeat' (first | (with_reducible exact Below.refl _ _) | (with_reducible assumption) | (with_reducible refine Below.alloc ?_ ?_ _) | (with_reducible refine Below.setCell ?_ ?_ _) | (with_reducible refine Below.drew ?_) | (with_reducible refine below_drewN ?_ _) | (apply bthen2; (with_reducible assumption)) | go_size))
  have hC1 : CurAt W1 (w.heap.size + 1) 0 := by
    refine CurAt.first (v := .slice a l c) ?_ (by refine Byts.mono (h.below hB1 (Nat.le_refl _)) (by omega))
    subst hW1; exact box_three (by first | omega | (simp; done) | (simp; omega)) (by simp [go_sem]) (by simp [go_sem]) (by simp [go_sem]) (fun o => by simp [go_sem])
  have XR_0 : IBox W1 (w.heap.size) 2 := by subst hW1; (repeat' (first | assumption | (with_reducible exact IBox.made (by first | rfl | (simp; done)) rfl rfl) | (with_reducible refine IBox.alloc ?_ _) | (with_reducible refine IBox.setI ?_ _ _) | (with_reducible refine IBox.drewN ?_ _)))
  have hz0 := hB1.size; have hcl := hC1.lt
  clear hW1
  obtain ⟨zR0_0, qR0_0⟩ := XR_0.2.1 0 (by omega)
  obtain ⟨zR1_0, qR1_0⟩ := XR_0.2.1 1 (by omega)
  have fR_0 := XR_0.2.2; have lR_0 := XR_0.1
  go_wp2_with fail
  refine (wealthyC (K := 0) ?_ ?_).mono ?_
  · (repeat' (first | assumption | (with_reducible refine CurAt.alloc ?_ _) | (with_reducible refine CurAt.set ?_ (by first | omega | (simp; done) | (simp; omega)) _) | (with_reducible refine CurAt.drewN ?_ _) | (with_reducible refine CurAt.drew ?_)))
  · omega
  rintro e1 w1 ⟨x1, y1, rfl, hc1, hg1⟩
  have hz1 := hg1.size
  (try simp only [World.size_alloc, World.size_setCell, World.size_drew, World.heap_drewN] at hz1)
  have XR_1 : IBox w1 (w.heap.size) 2 := by
    refine IBox.chg ?_ hg1 (by show ¬ _ = _; omega)
    (repeat' (first | assumption | (with_reducible exact IBox.made (by first | rfl | (simp; done)) rfl rfl) | (with_reducible refine IBox.alloc ?_ _) | (with_reducible refine IBox.setI ?_ _ _) | (with_reducible refine IBox.drewN ?_ _)))
  clear qR0_0 qR1_0 fR_0 XR_0
  obtain ⟨zR0_1, qR0_1⟩ := XR_1.2.1 0 (by omega)
  obtain ⟨zR1_1, qR1_1⟩ := XR_1.2.1 1 (by omega)
  have fR_1 := XR_1.2.2; have lR_1 := XR_1.1
  go_wp2_with fail
  refine (pickC (K := 0 + 40) ?_ ?_ ?_ ?_).mono ?_
  · (repeat' (first | assumption | (with_reducible refine CurAt.alloc ?_ _) | (with_reducible refine CurAt.set ?_ (by first | omega | (simp; done) | (simp; omega)) _) | (with_reducible refine CurAt.drewN ?_ _) | (with_reducible refine CurAt.drew ?_)))
  · omega
  · omega
  · omega
  rintro e2 w2 ⟨r2, rfl, ra2, rb2, hc2, hg2⟩
  have hz2 := hg2.size
  (try simp only [World.size_alloc, World.size_setCell, World.size_drew, World.heap_drewN] at hz2)
  have XR_2 : IBox w2 (w.heap.size) 2 := by
    refine IBox.chg ?_ hg2 (by show ¬ _ = _; omega)
    (repeat' (first | assumption | (with_reducible exact IBox.made (by first | rfl | (simp; done)) rfl rfl) | (with_reducible refine IBox.alloc ?_ _) | (with_reducible refine IBox.setI ?_ _ _) | (with_reducible refine IBox.drewN ?_ _)))
  clear qR0_1 qR1_1 fR_1 XR_1
  clear hc1
  obtain ⟨zR0_2, qR0_2⟩ := XR_2.2.1 0 (by omega)
  obtain ⟨zR1_2, qR1_2⟩ := XR_2.2.1 1 (by omega)
  have fR_2 := XR_2.2.2; have lR_2 := XR_2.1
  go_wp2_with fail
  refine (amongC (K := 0 + 40 + 2) ?_ ?_ ?_ ?_ ?_ ?_ ?_).mono ?_
  · (repeat' (first | assumption | (with_reducible refine CurAt.alloc ?_ _) | (with_reducible refine CurAt.set ?_ (by first | omega | (simp; done) | (simp; omega)) _) | (with_reducible refine CurAt.drewN ?_ _) | (with_reducible refine CurAt.drew ?_)))
  · omega
  · (first | rfl | (simp; done))
  · rfl
  · (simp; done)
  · (simp; done)
  · rfl
  rintro e3 w3 ⟨r3, rm3, rfl, hc3, hg3⟩
  clear rm3
  have hz3 := hg3.size
  (try simp only [World.size_alloc, World.size_setCell, World.size_drew, World.heap_drewN] at hz3)
  have XR_3 : IBox w3 (w.heap.size) 2 := by
    refine IBox.chg ?_ hg3 (by show ¬ _ = _; omega)
    (repeat' (first | assumption | (with_reducible exact IBox.made (by first | rfl | (simp; done)) rfl rfl) | (with_reducible refine IBox.alloc ?_ _) | (with_reducible refine IBox.setI ?_ _ _) | (with_reducible refine IBox.drewN ?_ _)))
  clear qR0_2 qR1_2 fR_2 XR_2
  clear hc2
  obtain ⟨zR0_3, qR0_3⟩ := XR_3.2.1 0 (by omega)
  obtain ⟨zR1_3, qR1_3⟩ := XR_3.2.1 1 (by omega)
  have fR_3 := XR_3.2.2; have lR_3 := XR_3.1
  go_wp2_with fail
  refine (amongC (K := 0 + 40 + 2 + 2) ?_ ?_ ?_ ?_ ?_ ?_ ?_).mono ?_
  · (repeat' (first | assumption | (with_reducible refine CurAt.alloc ?_ _) | (with_reducible refine CurAt.set ?_ (by first | omega | (simp; done) | (simp; omega)) _) | (with_reducible refine CurAt.drewN ?_ _) | (with_reducible refine CurAt.drew ?_)))
  · omega
  · (first | rfl | (simp; done))
  · rfl
  · (simp; done)
  · (simp; done)
  · rfl
  rintro e4 w4 ⟨r4, rm4, rfl, hc4, hg4⟩
  clear rm4
  have hz4 := hg4.size
  (try simp only [World.size_alloc, World.size_setCell, World.size_drew, World.heap_drewN] at hz4)
  have XR_4 : IBox w4 (w.heap.size) 2 := by
    refine IBox.chg ?_ hg4 (by show ¬ _ = _; omega)
    (repeat' (first | assumption | (with_reducible exact IBox.made (by first | rfl | (simp; done)) rfl rfl) | (with_reducible refine IBox.alloc ?_ _) | (with_reducible refine IBox.setI ?_ _ _) | (with_reducible refine IBox.drewN ?_ _)))
  clear qR0_3 qR1_3 fR_3 XR_3
  clear hc3
  obtain ⟨zR0_4, qR0_4⟩ := XR_4.2.1 0 (by omega)
  obtain ⟨zR1_4, qR1_4⟩ := XR_4.2.1 1 (by omega)
  have fR_4 := XR_4.2.2; have lR_4 := XR_4.1
  go_wp2_with fail
  refine (denOfC (K := 0 + 40 + 2 + 2 + 2) ?_ ?_).mono ?_
  · (repeat' (first | assumption | (with_reducible refine CurAt.alloc ?_ _) | (with_reducible refine CurAt.set ?_ (by first | omega | (simp; done) | (simp; omega)) _) | (with_reducible refine CurAt.drewN ?_ _) | (with_reducible refine CurAt.drew ?_)))
  · omega
  rintro e5 w5 ⟨r5, rfl, hc5, hg5⟩
  have hz5 := hg5.size
  (try simp only [World.size_alloc, World.size_setCell, World.size_drew, World.heap_drewN] at hz5)
  have XR_5 : IBox w5 (w.heap.size) 2 := by
    refine IBox.chg ?_ hg5 (by show ¬ _ = _; omega)
    (repeat' (first | assumption | (with_reducible exact IBox.made (by first | rfl | (simp; done)) rfl rfl) | (with_reducible refine IBox.alloc ?_ _) | (with_reducible refine IBox.setI ?_ _ _) | (with_reducible refine IBox.drewN ?_ _)))
  clear qR0_4 qR1_4 fR_4 XR_4
  clear hc4
  obtain ⟨zR0_5, qR0_5⟩ := XR_5.2.1 0 (by omega)
  obtain ⟨zR1_5, qR1_5⟩ := XR_5.2.1 1 (by omega)
  have fR_5 := XR_5.2.2; have lR_5 := XR_5.1
  go_wp2_with fail
  refine name_worldB (fun WF hWF => ?_)
  have XF : IBox WF (w.heap.size) 2 := by subst hWF; (repeat' (first | assumption | (with_reducible exact IBox.made (by first | rfl | (simp; done)) rfl rfl) | (with_reducible refine IBox.alloc ?_ _) | (with_reducible refine IBox.setI ?_ _ _) | (with_reducible refine IBox.drewN ?_ _)))
  have hGF : Below w.heap.size w WF := by subst hWF; (repeat' (first | (with_reducible exact Below.refl _ _) | (with_reducible assumption) | (with_reducible refine Below.alloc ?_ ?_ _) | (with_reducible refine Below.setCell ?_ ?_ _) | (with_reducible refine Below.drew ?_) | (with_reducible refine below_drewN ?_ _) | (refine bthenG (by assumption) ?_ ?_ ?_) | (refine bthen3 (by assumption) ?_ ?_) | omega | (simp; done) | (simp; omega)))
  clear hWF
  obtain ⟨x0, k0⟩ := XF.2.1 0 (by omega)
  obtain ⟨x1, k1⟩ := XF.2.1 1 (by omega)
  have kl := XF.1
  refine bodyPost_ret (v := .tuple #[.agg #[.int .i64 x0, .int .i64 x1], .int .i64 r4, .int .i64 r5]) (by simp [results, Try.results15, go_sem, kl, k0, k1]) rfl ?_
  exact ⟨x0, x1, r4, r5, rfl, hGF⟩

set_option maxRecDepth 100000 in
set_option maxHeartbeats 4000000 in
theorem DrawSearchPointsC {a : Option Addr} {l c : Nat} {w : World} (h : Byts w w.heap.size (.slice a l c)) : Calls Try.prog 18 #[.slice a l c] w (GD2I w) := by
  unfold GD2I
  go_enter Try.func18, Try.ntmps18
  go_wp2_with fail
  refine name_worldC (fun W1 hW1 => ?_)
  have hB1 : Below w.heap.size w W1 := by subst hW1; exact (by repeat' (first | (with_reducible exact Below.refl _ _) | (with_reducible assumption) | (with_reducible refine Below.alloc ?_ ?_ _) | (with_reducible refine Below.setCell ?_ ?_ _) | (with_reducible refine Below.drew ?_) | (with_reducible refine below_drewN ?_ _) | (apply bthen2; (with_reducible assumption)) | go_size))
  have hC1 : CurAt W1 (w.heap.size + 1) 0 := by
    refine CurAt.first (v := .slice a l c) ?_ (by refine Byts.mono (h.below hB1 (Nat.le_refl _)) (by omega))
    subst hW1; exact box_three (by first | omega | (simp; done) | (simp; omega)) (by simp [go_sem]) (by simp [go_sem]) (by simp [go_sem]) (fun o => by simp [go_sem])
  have XR_0 : IBox W1 (w.heap.size) 2 := by subst hW1; (repeat' (first | assumption | (with_reducible exact IBox.made (by first | rfl | (simp; done)) rfl rfl) | (with_reducible refine IBox.alloc ?_ _) | (with_reducible refine IBox.setI ?_ _ _) | (with_reducible refine IBox.drewN ?_ _)))
  have hz0 := hB1.size; have hcl := hC1.lt
  clear hW1
  obtain ⟨zR0_0, qR0_0⟩ := XR_0.2.1 0 (by omega)
  obtain ⟨zR1_0, qR1_0⟩ := XR_0.2.1 1 (by omega)
  have fR_0 := XR_0.2.2; have lR_0 := XR_0.1
  go_wp2_with fail
  refine (wealthyC (K := 0) ?_ ?_).mono ?_
  · (repeat' (first | assumption | (with_reducible refine CurAt.alloc ?_ _) | (with_reducible refine CurAt.set ?_ (by first | omega | (simp; done) | (simp; omega)) _) | (with_reducible refine CurAt.drewN ?_ _) | (with_reducible refine CurAt.drew ?_)))
  · omega
  rintro e1 w1 ⟨x1, y1, rfl, hc1, hg1⟩
  have hz1 := hg1.size
  (try simp only [World.size_alloc, World.size_setCell, World.size_drew, World.heap_drewN] at hz1)
  have XR_1 : IBox w1 (w.heap.size) 2 := by
    refine IBox.chg ?_ hg1 (by show ¬ _ = _; omega)
    (repeat' (first | assumption | (with_reducible exact IBox.made (by first | rfl | (simp; done)) rfl rfl) | (with_reducible refine IBox.alloc ?_ _) | (with_reducible refine IBox.setI ?_ _ _) | (with_reducible refine IBox.drewN ?_ _)))
  clear qR0_0 qR1_0 fR_0 XR_0
  obtain ⟨zR0_1, qR0_1⟩ := XR_1.2.1 0 (by omega)
  obtain ⟨zR1_1, qR1_1⟩ := XR_1.2.1 1 (by omega)
  have fR_1 := XR_1.2.2; have lR_1 := XR_1.1
  go_wp2_with fail
  refine (searchBoundC (K := 0 + 40) ?_ ?_).mono ?_
  · (repeat' (first | assumption | (with_reducible refine CurAt.alloc ?_ _) | (with_reducible refine CurAt.set ?_ (by first | omega | (simp; done) | (simp; omega)) _) | (with_reducible refine CurAt.drewN ?_ _) | (with_reducible refine CurAt.drew ?_)))
  · omega
  rintro e2 w2 ⟨r2, rfl, hc2, hg2⟩
  have hz2 := hg2.size
  (try simp only [World.size_alloc, World.size_setCell, World.size_drew, World.heap_drewN] at hz2)
  have XR_2 : IBox w2 (w.heap.size) 2 := by
    refine IBox.chg ?_ hg2 (by show ¬ _ = _; omega)
    (repeat' (first | assumption | (with_reducible exact IBox.made (by first | rfl | (simp; done)) rfl rfl) | (with_reducible refine IBox.alloc ?_ _) | (with_reducible refine IBox.setI ?_ _ _) | (with_reducible refine IBox.drewN ?_ _)))
  clear qR0_1 qR1_1 fR_1 XR_1
  clear hc1
  obtain ⟨zR0_2, qR0_2⟩ := XR_2.2.1 0 (by omega)
  obtain ⟨zR1_2, qR1_2⟩ := XR_2.2.1 1 (by omega)
  have fR_2 := XR_2.2.2; have lR_2 := XR_2.1
  go_wp2_with fail
  refine (denOfC (K := 0 + 40 + 6) ?_ ?_).mono ?_
  · (repeat' (first | assumption | (with_reducible refine CurAt.alloc ?_ _) | (with_reducible refine CurAt.set ?_ (by first | omega | (simp; done) | (simp; omega)) _) | (with_reducible refine CurAt.drewN ?_ _) | (with_reducible refine CurAt.drew ?_)))
  · omega
  rintro e3 w3 ⟨r3, rfl, hc3, hg3⟩
  have hz3 := hg3.size
  (try simp only [World.size_alloc, World.size_setCell, World.size_drew, World.heap_drewN] at hz3)
  have XR_3 : IBox w3 (w.heap.size) 2 := by
    refine IBox.chg ?_ hg3 (by show ¬ _ = _; omega)
    (repeat' (first | assumption | (with_reducible exact IBox.made (by first | rfl | (simp; done)) rfl rfl) | (with_reducible refine IBox.alloc ?_ _) | (with_reducible refine IBox.setI ?_ _ _) | (with_reducible refine IBox.drewN ?_ _)))
  clear qR0_2 qR1_2 fR_2 XR_2
  clear hc2
  obtain ⟨zR0_3, qR0_3⟩ := XR_3.2.1 0 (by omega)
  obtain ⟨zR1_3, qR1_3⟩ := XR_3.2.1 1 (by omega)
  have fR_3 := XR_3.2.2; have lR_3 := XR_3.1
  go_wp2_with fail
  refine name_worldB (fun WF hWF => ?_)
  have XF : IBox WF (w.heap.size) 2 := by subst hWF; (repeat' (first | assumption | (with_reducible exact IBox.made (by first | rfl | (simp; done)) rfl rfl) | (with_reducible refine IBox.alloc ?_ _) | (with_reducible refine IBox.setI ?_ _ _) | (with_reducible refine IBox.drewN ?_ _)))
  have hGF : Below w.heap.size w WF := by subst hWF; (repeat' (first | (with_reducible exact Below.refl _ _) | (with_reducible assumption) | (with_reducible refine Below.alloc ?_ ?_ _) | (with_reducible refine Below.setCell ?_ ?_ _) | (with_reducible refine Below.drew ?_) | (with_reducible refine below_drewN ?_ _) | (refine bthenG (by assumption) ?_ ?_ ?_) | (refine bthen3 (by assumption) ?_ ?_) | omega | (simp; done) | (simp; omega)))
  clear hWF
  obtain ⟨x0, k0⟩ := XF.2.1 0 (by omega)
  obtain ⟨x1, k1⟩ := XF.2.1 1 (by omega)
  have kl := XF.1
  refine bodyPost_ret (v := .tuple #[.agg #[.int .i64 x0, .int .i64 x1], .int .i64 r2, .int .i64 r3]) (by simp [results, Try.results18, go_sem, kl, k0, k1]) rfl ?_
  exact ⟨x0, x1, r2, r3, rfl, hGF⟩

set_option maxRecDepth 100000 in
set_option maxHeartbeats 4000000 in
theorem DrawCountSievedC {a : Option Addr} {l c : Nat} {w : World} (h : Byts w w.heap.size (.slice a l c)) : Calls Try.prog 28 #[.slice a l c] w (GD2J w) := by
  unfold GD2J
  go_enter Try.func28, Try.ntmps28
  go_wp2_with fail
  refine name_worldC (fun W1 hW1 => ?_)
  have hB1 : Below w.heap.size w W1 := by subst hW1; exact (by repeat' (first | (with_reducible exact Below.refl _ _) | (with_reducible assumption) | (with_reducible refine Below.alloc ?_ ?_ _) | (with_reducible refine Below.setCell ?_ ?_ _) | (with_reducible refine Below.drew ?_) | (with_reducible refine below_drewN ?_ _) | (apply bthen2; (with_reducible assumption)) | go_size))
  have hC1 : CurAt W1 (w.heap.size + 1) 0 := by
    refine CurAt.first (v := .slice a l c) ?_ (by refine Byts.mono (h.below hB1 (Nat.le_refl _)) (by omega))
    subst hW1; exact box_three (by first | omega | (simp; done) | (simp; omega)) (by simp [go_sem]) (by simp [go_sem]) (by simp [go_sem]) (fun o => by simp [go_sem])
  have XR_0 : IBox W1 (w.heap.size) 2 := by subst hW1; (repeat' (first | assumption | (with_reducible exact IBox.made (by first | rfl | (simp; done)) rfl rfl) | (with_reducible refine IBox.alloc ?_ _) | (with_reducible refine IBox.setI ?_ _ _) | (with_reducible refine IBox.drewN ?_ _)))
  have hz0 := hB1.size; have hcl := hC1.lt
  clear hW1
  obtain ⟨zR0_0, qR0_0⟩ := XR_0.2.1 0 (by omega)
  obtain ⟨zR1_0, qR1_0⟩ := XR_0.2.1 1 (by omega)
  have fR_0 := XR_0.2.2; have lR_0 := XR_0.1
  go_wp2_with fail
  refine (wealthyC (K := 0) ?_ ?_).mono ?_
  · (repeat' (first | assumption | (with_reducible refine CurAt.alloc ?_ _) | (with_reducible refine CurAt.set ?_ (by first | omega | (simp; done) | (simp; omega)) _) | (with_reducible refine CurAt.drewN ?_ _) | (with_reducible refine CurAt.drew ?_)))
  · omega
  rintro e1 w1 ⟨x1, y1, rfl, hc1, hg1⟩
  have hz1 := hg1.size
  (try simp only [World.size_alloc, World.size_setCell, World.size_drew, World.heap_drewN] at hz1)
  have XR_1 : IBox w1 (w.heap.size) 2 := by
    refine IBox.chg ?_ hg1 (by show ¬ _ = _; omega)
    (repeat' (first | assumption | (with_reducible exact IBox.made (by first | rfl | (simp; done)) rfl rfl) | (with_reducible refine IBox.alloc ?_ _) | (with_reducible refine IBox.setI ?_ _ _) | (with_reducible refine IBox.drewN ?_ _)))
  clear qR0_0 qR1_0 fR_0 XR_0
  obtain ⟨zR0_1, qR0_1⟩ := XR_1.2.1 0 (by omega)
  obtain ⟨zR1_1, qR1_1⟩ := XR_1.2.1 1 (by omega)
  have fR_1 := XR_1.2.2; have lR_1 := XR_1.1
  go_wp2_with fail
  refine (denOfC (K := 0 + 40) ?_ ?_).mono ?_
  · (repeat' (first | assumption | (with_reducible refine CurAt.alloc ?_ _) | (with_reducible refine CurAt.set ?_ (by first | omega | (simp; done) | (simp; omega)) _) | (with_reducible refine CurAt.drewN ?_ _) | (with_reducible refine CurAt.drew ?_)))
  · omega
  rintro e2 w2 ⟨r2, rfl, hc2, hg2⟩
  have hz2 := hg2.size
  (try simp only [World.size_alloc, World.size_setCell, World.size_drew, World.heap_drewN] at hz2)
  have XR_2 : IBox w2 (w.heap.size) 2 := by
    refine IBox.chg ?_ hg2 (by show ¬ _ = _; omega)
    (repeat' (first | assumption | (with_reducible exact IBox.made (by first | rfl | (simp; done)) rfl rfl) | (with_reducible refine IBox.alloc ?_ _) | (with_reducible refine IBox.setI ?_ _ _) | (with_reducible refine IBox.drewN ?_ _)))
  clear qR0_1 qR1_1 fR_1 XR_1
  clear hc1
  obtain ⟨zR0_2, qR0_2⟩ := XR_2.2.1 0 (by omega)
  obtain ⟨zR1_2, qR1_2⟩ := XR_2.2.1 1 (by omega)
  have fR_2 := XR_2.2.2; have lR_2 := XR_2.1
  go_wp2_with fail
  refine (searchBoundC (K := 0 + 40 + 4) ?_ ?_).mono ?_
  · (repeat' (first | assumption | (with_reducible refine CurAt.alloc ?_ _) | (with_reducible refine CurAt.set ?_ (by first | omega | (simp; done) | (simp; omega)) _) | (with_reducible refine CurAt.drewN ?_ _) | (with_reducible refine CurAt.drew ?_)))
  · omega
  rintro e3 w3 ⟨r3, rfl, hc3, hg3⟩
  have hz3 := hg3.size
  (try simp only [World.size_alloc, World.size_setCell, World.size_drew, World.heap_drewN] at hz3)
  have XR_3 : IBox w3 (w.heap.size) 2 := by
    refine IBox.chg ?_ hg3 (by show ¬ _ = _; omega)
    (repeat' (first | assumption | (with_reducible exact IBox.made (by first | rfl | (simp; done)) rfl rfl) | (with_reducible refine IBox.alloc ?_ _) | (with_reducible refine IBox.setI ?_ _ _) | (with_reducible refine IBox.drewN ?_ _)))
  clear qR0_2 qR1_2 fR_2 XR_2
  clear hc2
  obtain ⟨zR0_3, qR0_3⟩ := XR_3.2.1 0 (by omega)
  obtain ⟨zR1_3, qR1_3⟩ := XR_3.2.1 1 (by omega)
  have fR_3 := XR_3.2.2; have lR_3 := XR_3.1
  go_wp2_with fail
  refine (primeOfC (K := 0 + 40 + 4 + 6) ?_ ?_).mono ?_
  · (repeat' (first | assumption | (with_reducible refine CurAt.alloc ?_ _) | (with_reducible refine CurAt.set ?_ (by first | omega | (simp; done) | (simp; omega)) _) | (with_reducible refine CurAt.drewN ?_ _) | (with_reducible refine CurAt.drew ?_)))
  · omega
  rintro e4 w4 ⟨r4, rfl, hc4, hg4⟩
  have hz4 := hg4.size
  (try simp only [World.size_alloc, World.size_setCell, World.size_drew, World.heap_drewN] at hz4)
  have XR_4 : IBox w4 (w.heap.size) 2 := by
    refine IBox.chg ?_ hg4 (by show ¬ _ = _; omega)
    (repeat' (first | assumption | (with_reducible exact IBox.made (by first | rfl | (simp; done)) rfl rfl) | (with_reducible refine IBox.alloc ?_ _) | (with_reducible refine IBox.setI ?_ _ _) | (with_reducible refine IBox.drewN ?_ _)))
  clear qR0_3 qR1_3 fR_3 XR_3
  clear hc3
  obtain ⟨zR0_4, qR0_4⟩ := XR_4.2.1 0 (by omega)
  obtain ⟨zR1_4, qR1_4⟩ := XR_4.2.1 1 (by omega)
  have fR_4 := XR_4.2.2; have lR_4 := XR_4.1
  go_wp2_with fail
  refine name_worldB (fun WF hWF => ?_)
  have XF : IBox WF (w.heap.size) 2 := by subst hWF; (repeat' (first | assumption | (with_reducible exact IBox.made (by first | rfl | (simp; done)) rfl rfl) | (with_reducible refine IBox.alloc ?_ _) | (with_reducible refine IBox.setI ?_ _ _) | (with_reducible refine IBox.drewN ?_ _)))
  have hGF : Below w.heap.size w WF := by subst hWF; (repeat' (first | (with_reducible exact Below.refl _ _) | (with_reducible assumption) | (with_reducible refine Below.alloc ?_ ?_ _) | (with_reducible refine Below.setCell ?_ ?_ _) | (with_reducible refine Below.drew ?_) | (with_reducible refine below_drewN ?_ _) | (refine bthenG (by assumption) ?_ ?_ ?_) | (refine bthen3 (by assumption) ?_ ?_) | omega | (simp; done) | (simp; omega)))
  clear hWF
  obtain ⟨x0, k0⟩ := XF.2.1 0 (by omega)
  obtain ⟨x1, k1⟩ := XF.2.1 1 (by omega)
  have kl := XF.1
  refine bodyPost_ret (v := .tuple #[.agg #[.int .i64 x0, .int .i64 x1], .int .i64 r2, .int .i64 r3, .int .i64 r4]) (by simp [results, Try.results28, go_sem, kl, k0, k1]) rfl ?_
  exact ⟨x0, x1, r2, r3, r4, rfl, hGF⟩

set_option maxRecDepth 100000 in
set_option maxHeartbeats 4000000 in
theorem DrawPassesSieveC {a : Option Addr} {l c : Nat} {w : World} (h : Byts w w.heap.size (.slice a l c)) : Calls Try.prog 31 #[.slice a l c] w (GD2J w) := by
  unfold GD2J
  go_enter Try.func31, Try.ntmps31
  go_wp2_with fail
  refine name_worldC (fun W1 hW1 => ?_)
  have hB1 : Below w.heap.size w W1 := by subst hW1; exact (by repeat' (first | (with_reducible exact Below.refl _ _) | (with_reducible assumption) | (with_reducible refine Below.alloc ?_ ?_ _) | (with_reducible refine Below.setCell ?_ ?_ _) | (with_reducible refine Below.drew ?_) | (with_reducible refine below_drewN ?_ _) | (apply bthen2; (with_reducible assumption)) | go_size))
  have hC1 : CurAt W1 (w.heap.size + 1) 0 := by
    refine CurAt.first (v := .slice a l c) ?_ (by refine Byts.mono (h.below hB1 (Nat.le_refl _)) (by omega))
    subst hW1; exact box_three (by first | omega | (simp; done) | (simp; omega)) (by simp [go_sem]) (by simp [go_sem]) (by simp [go_sem]) (fun o => by simp [go_sem])
  have XR_0 : IBox W1 (w.heap.size) 2 := by subst hW1; (repeat' (first | assumption | (with_reducible exact IBox.made (by first | rfl | (simp; done)) rfl rfl) | (with_reducible refine IBox.alloc ?_ _) | (with_reducible refine IBox.setI ?_ _ _) | (with_reducible refine IBox.drewN ?_ _)))
  have hz0 := hB1.size; have hcl := hC1.lt
  clear hW1
  obtain ⟨zR0_0, qR0_0⟩ := XR_0.2.1 0 (by omega)
  obtain ⟨zR1_0, qR1_0⟩ := XR_0.2.1 1 (by omega)
  have fR_0 := XR_0.2.2; have lR_0 := XR_0.1
  go_wp2_with fail
  refine (wealthyC (K := 0) ?_ ?_).mono ?_
  · (repeat' (first | assumption | (with_reducible refine CurAt.alloc ?_ _) | (with_reducible refine CurAt.set ?_ (by first | omega | (simp; done) | (simp; omega)) _) | (with_reducible refine CurAt.drewN ?_ _) | (with_reducible refine CurAt.drew ?_)))
  · omega
  rintro e1 w1 ⟨x1, y1, rfl, hc1, hg1⟩
  have hz1 := hg1.size
  (try simp only [World.size_alloc, World.size_setCell, World.size_drew, World.heap_drewN] at hz1)
  have XR_1 : IBox w1 (w.heap.size) 2 := by
    refine IBox.chg ?_ hg1 (by show ¬ _ = _; omega)
    (repeat' (first | assumption | (with_reducible exact IBox.made (by first | rfl | (simp; done)) rfl rfl) | (with_reducible refine IBox.alloc ?_ _) | (with_reducible refine IBox.setI ?_ _ _) | (with_reducible refine IBox.drewN ?_ _)))
  clear qR0_0 qR1_0 fR_0 XR_0
  obtain ⟨zR0_1, qR0_1⟩ := XR_1.2.1 0 (by omega)
  obtain ⟨zR1_1, qR1_1⟩ := XR_1.2.1 1 (by omega)
  have fR_1 := XR_1.2.2; have lR_1 := XR_1.1
  go_wp2_with fail
  refine (pickC (K := 0 + 40) ?_ ?_ ?_ ?_).mono ?_
  · (repeat' (first | assumption | (with_reducible refine CurAt.alloc ?_ _) | (with_reducible refine CurAt.set ?_ (by first | omega | (simp; done) | (simp; omega)) _) | (with_reducible refine CurAt.drewN ?_ _) | (with_reducible refine CurAt.drew ?_)))
  · omega
  · omega
  · omega
  rintro e2 w2 ⟨r2, rfl, ra2, rb2, hc2, hg2⟩
  have hz2 := hg2.size
  (try simp only [World.size_alloc, World.size_setCell, World.size_drew, World.heap_drewN] at hz2)
  have XR_2 : IBox w2 (w.heap.size) 2 := by
    refine IBox.chg ?_ hg2 (by show ¬ _ = _; omega)
    (repeat' (first | assumption | (with_reducible exact IBox.made (by first | rfl | (simp; done)) rfl rfl) | (with_reducible refine IBox.alloc ?_ _) | (with_reducible refine IBox.setI ?_ _ _) | (with_reducible refine IBox.drewN ?_ _)))
  clear qR0_1 qR1_1 fR_1 XR_1
  clear hc1
  obtain ⟨zR0_2, qR0_2⟩ := XR_2.2.1 0 (by omega)
  obtain ⟨zR1_2, qR1_2⟩ := XR_2.2.1 1 (by omega)
  have fR_2 := XR_2.2.2; have lR_2 := XR_2.1
  go_wp2_with fail
  refine (amongC (K := 0 + 40 + 2) ?_ ?_ ?_ ?_ ?_ ?_ ?_).mono ?_
  · (repeat' (first | assumption | (with_reducible refine CurAt.alloc ?_ _) | (with_reducible refine CurAt.set ?_ (by first | omega | (simp; done) | (simp; omega)) _) | (with_reducible refine CurAt.drewN ?_ _) | (with_reducible refine CurAt.drew ?_)))
  · omega
  · (first | rfl | (simp; done))
  · rfl
  · (simp; done)
  · (simp; done)
  · rfl
  rintro e3 w3 ⟨r3, rm3, rfl, hc3, hg3⟩
  clear rm3
  have hz3 := hg3.size
  (try simp only [World.size_alloc, World.size_setCell, World.size_drew, World.heap_drewN] at hz3)
  have XR_3 : IBox w3 (w.heap.size) 2 := by
    refine IBox.chg ?_ hg3 (by show ¬ _ = _; omega)
    (repeat' (first | assumption | (with_reducible exact IBox.made (by first | rfl | (simp; done)) rfl rfl) | (with_reducible refine IBox.alloc ?_ _) | (with_reducible refine IBox.setI ?_ _ _) | (with_reducible refine IBox.drewN ?_ _)))
  clear qR0_2 qR1_2 fR_2 XR_2
  clear hc2
  obtain ⟨zR0_3, qR0_3⟩ := XR_3.2.1 0 (by omega)
  obtain ⟨zR1_3, qR1_3⟩ := XR_3.2.1 1 (by omega)
  have fR_3 := XR_3.2.2; have lR_3 := XR_3.1
  go_wp2_with fail
  refine (denOfC (K := 0 + 40 + 2 + 2) ?_ ?_).mono ?_
  · (repeat' (first | assumption | (with_reducible refine CurAt.alloc ?_ _) | (with_reducible refine CurAt.set ?_ (by first | omega | (simp; done) | (simp; omega)) _) | (with_reducible refine CurAt.drewN ?_ _) | (with_reducible refine CurAt.drew ?_)))
  · omega
  rintro e4 w4 ⟨r4, rfl, hc4, hg4⟩
  have hz4 := hg4.size
  (try simp only [World.size_alloc, World.size_setCell, World.size_drew, World.heap_drewN] at hz4)
  have XR_4 : IBox w4 (w.heap.size) 2 := by
    refine IBox.chg ?_ hg4 (by show ¬ _ = _; omega)
    (repeat' (first | assumption | (with_reducible exact IBox.made (by first | rfl | (simp; done)) rfl rfl) | (with_reducible refine IBox.alloc ?_ _) | (with_reducible refine IBox.setI ?_ _ _) | (with_reducible refine IBox.drewN ?_ _)))
  clear qR0_3 qR1_3 fR_3 XR_3
  clear hc3
  obtain ⟨zR0_4, qR0_4⟩ := XR_4.2.1 0 (by omega)
  obtain ⟨zR1_4, qR1_4⟩ := XR_4.2.1 1 (by omega)
  have fR_4 := XR_4.2.2; have lR_4 := XR_4.1
  go_wp2_with fail
  refine (primeOfC (K := 0 + 40 + 2 + 2 + 4) ?_ ?_).mono ?_
  · (repeat' (first | assumption | (with_reducible refine CurAt.alloc ?_ _) | (with_reducible refine CurAt.set ?_ (by first | omega | (simp; done) | (simp; omega)) _) | (with_reducible refine CurAt.drewN ?_ _) | (with_reducible refine CurAt.drew ?_)))
  · omega
  rintro e5 w5 ⟨r5, rfl, hc5, hg5⟩
  have hz5 := hg5.size
  (try simp only [World.size_alloc, World.size_setCell, World.size_drew, World.heap_drewN] at hz5)
  have XR_5 : IBox w5 (w.heap.size) 2 := by
    refine IBox.chg ?_ hg5 (by show ¬ _ = _; omega)
    (repeat' (first | assumption | (with_reducible exact IBox.made (by first | rfl | (simp; done)) rfl rfl) | (with_reducible refine IBox.alloc ?_ _) | (with_reducible refine IBox.setI ?_ _ _) | (with_reducible refine IBox.drewN ?_ _)))
  clear qR0_4 qR1_4 fR_4 XR_4
  clear hc4
  obtain ⟨zR0_5, qR0_5⟩ := XR_5.2.1 0 (by omega)
  obtain ⟨zR1_5, qR1_5⟩ := XR_5.2.1 1 (by omega)
  have fR_5 := XR_5.2.2; have lR_5 := XR_5.1
  go_wp2_with fail
  refine name_worldB (fun WF hWF => ?_)
  have XF : IBox WF (w.heap.size) 2 := by subst hWF; (repeat' (first | assumption | (with_reducible exact IBox.made (by first | rfl | (simp; done)) rfl rfl) | (with_reducible refine IBox.alloc ?_ _) | (with_reducible refine IBox.setI ?_ _ _) | (with_reducible refine IBox.drewN ?_ _)))
  have hGF : Below w.heap.size w WF := by subst hWF; (repeat' (first | (with_reducible exact Below.refl _ _) | (with_reducible assumption) | (with_reducible refine Below.alloc ?_ ?_ _) | (with_reducible refine Below.setCell ?_ ?_ _) | (with_reducible refine Below.drew ?_) | (with_reducible refine below_drewN ?_ _) | (refine bthenG (by assumption) ?_ ?_ ?_) | (refine bthen3 (by assumption) ?_ ?_) | omega | (simp; done) | (simp; omega)))
  clear hWF
  obtain ⟨x0, k0⟩ := XF.2.1 0 (by omega)
  obtain ⟨x1, k1⟩ := XF.2.1 1 (by omega)
  have kl := XF.1
  refine bodyPost_ret (v := .tuple #[.agg #[.int .i64 x0, .int .i64 x1], .int .i64 r3, .int .i64 r4, .int .i64 r5]) (by simp [results, Try.results31, go_sem, kl, k0, k1]) rfl ?_
  exact ⟨x0, x1, r3, r4, r5, rfl, hGF⟩

set_option maxRecDepth 100000 in
set_option maxHeartbeats 4000000 in
theorem DrawExactRootC {a : Option Addr} {l c : Nat} {w : World} (h : Byts w w.heap.size (.slice a l c)) : Calls Try.prog 13 #[.slice a l c] w (GD1 w) := by
  unfold GD1
  go_enter Try.func13, Try.ntmps13
  go_wp2_with fail
  refine name_worldC (fun W1 hW1 => ?_)
  have hB1 : Below w.heap.size w W1 := by subst hW1; exact (by repeat' (first | (with_reducible exact Below.refl _ _) | (with_reducible assumption) | (with_reducible refine Below.alloc ?_ ?_ _) | (with_reducible refine Below.setCell ?_ ?_ _) | (with_reducible refine Below.drew ?_) | (with_reducible refine below_drewN ?_ _) | (apply bthen2; (with_reducible assumption)) | go_size))
  have hC1 : CurAt W1 (w.heap.size) 0 := by
    refine CurAt.first (v := .slice a l c) ?_ (by refine Byts.mono (h.below hB1 (Nat.le_refl _)) (by omega))
    subst hW1; exact box_three (by first | omega | (simp; done) | (simp; omega)) (by simp [go_sem]) (by simp [go_sem]) (by simp [go_sem]) (fun o => by simp [go_sem])
  have hz0 := hB1.size; have hcl := hC1.lt
  clear hW1
  go_wp2_with fail
  refine (pickC (K := 0) ?_ ?_ ?_ ?_).mono ?_
  · (repeat' (first | assumption | (with_reducible refine CurAt.alloc ?_ _) | (with_reducible refine CurAt.set ?_ (by first | omega | (simp; done) | (simp; omega)) _) | (with_reducible refine CurAt.drewN ?_ _) | (with_reducible refine CurAt.drew ?_)))
  · omega
  · omega
  · omega
  rintro e1 w1 ⟨r1, rfl, ra1, rb1, hc1, hg1⟩
  have hz1 := hg1.size
  (try simp only [World.size_alloc, World.size_setCell, World.size_drew, World.heap_drewN] at hz1)
  go_wp2_with fail
  refine (amongC (K := 0 + 2) ?_ ?_ ?_ ?_ ?_ ?_ ?_).mono ?_
  · (repeat' (first | assumption | (with_reducible refine CurAt.alloc ?_ _) | (with_reducible refine CurAt.set ?_ (by first | omega | (simp; done) | (simp; omega)) _) | (with_reducible refine CurAt.drewN ?_ _) | (with_reducible refine CurAt.drew ?_)))
  · omega
  · (first | rfl | (simp; done))
  · rfl
  · (simp; done)
  · (simp; done)
  · rfl
  rintro e2 w2 ⟨r2, rm2, rfl, hc2, hg2⟩
  clear rm2
  have hz2 := hg2.size
  (try simp only [World.size_alloc, World.size_setCell, World.size_drew, World.heap_drewN] at hz2)
  clear hc1
  go_wp2_with fail
  refine (oneC (K := 0 + 2 + 2) ?_ ?_ ?_).mono ?_
  · (repeat' (first | assumption | (with_reducible refine CurAt.alloc ?_ _) | (with_reducible refine CurAt.set ?_ (by first | omega | (simp; done) | (simp; omega)) _) | (with_reducible refine CurAt.drewN ?_ _) | (with_reducible refine CurAt.drew ?_)))
  · omega
  · omega
  rintro e3 w3 ⟨r3, rfl, hc3, hg3⟩
  have hz3 := hg3.size
  (try simp only [World.size_alloc, World.size_setCell, World.size_drew, World.heap_drewN] at hz3)
  clear hc2
  cases r3
  · skip
    go_wp2_with fail
    refine (amongC (K := 0 + 2 + 2 + 2) ?_ ?_ ?_ ?_ ?_ ?_ ?_).mono ?_
    · (repeat' (first | assumption | (with_reducible refine CurAt.alloc ?_ _) | (with_reducible refine CurAt.set ?_ (by first | omega | (simp; done) | (simp; omega)) _) | (with_reducible refine CurAt.drewN ?_ _) | (with_reducible refine CurAt.drew ?_)))
    · omega
    · (first | rfl | (simp; done))
    · rfl
    · (simp; done)
    · (simp; done)
    · rfl
    rintro e4 w4 ⟨r4, rm4, rfl, hc4, hg4⟩
    clear rm4
    have hz4 := hg4.size
    (try simp only [World.size_alloc, World.size_setCell, World.size_drew, World.heap_drewN] at hz4)
    clear hc3
    go_wp2_with fail
    go_ret
    exact ⟨_, rfl, by (repeat' (first | (with_reducible exact Below.refl _ _) | (with_reducible assumption) | (with_reducible refine Below.alloc ?_ ?_ _) | (with_reducible refine Below.setCell ?_ ?_ _) | (with_reducible refine Below.drew ?_) | (with_reducible refine below_drewN ?_ _) | (refine bthenG (by assumption) ?_ ?_ ?_) | (refine bthen3 (by assumption) ?_ ?_) | omega | (simp; done) | (simp; omega)))⟩
  · skip
    go_wp2_with fail
    go_ret
    exact ⟨_, rfl, by (repeat' (first | (with_reducible exact Below.refl _ _) | (with_reducible assumption) | (with_reducible refine Below.alloc ?_ ?_ _) | (with_reducible refine Below.setCell ?_ ?_ _) | (with_reducible refine Below.drew ?_) | (with_reducible refine below_drewN ?_ _) | (refine bthenG (by assumption) ?_ ?_ ?_) | (refine bthen3 (by assumption) ?_ ?_) | omega | (simp; done) | (simp; omega)))⟩

end Go.Proofs.Ytelkmldmebdcgaa
