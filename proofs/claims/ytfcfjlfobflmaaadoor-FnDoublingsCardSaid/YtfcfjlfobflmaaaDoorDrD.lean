import Derived.Test.YtfcfjlfobflmaaaDoorDrW
set_option linter.unusedSimpArgs false
set_option linter.unusedVariables false
namespace Go.Proofs.YtfcfjlfobflmaaaDoor
open Go.RowKit
/-! ### draws of curves with a number, of two numbers -/

theorem setCell_otherD {w : World} {p q : Addr} {u v x : Value} (hp : w.cell? p = some u) (hq : w.cell? q = some v) (hne : u ≠ v) : (w.setCell p x).cell? q = some v := by
  rw [World.cell?_setCell_other _ _ _ _ (fun e => hne (by rw [e] at hp; rw [hp] at hq; exact Option.some.inj hq)), hq]
theorem Ints.setNI {w : World} {s : Value} {xs : List Int} (h : Ints w s xs) {p : Addr} {u : Value} (hp : w.cell? p = some u) (hu : ∀ k n, u ≠ .int k n) (v : Value) : Ints (w.setCell p v) s xs := by
  rcases h with h | ⟨b, off, len, cap, hs, hl, h0, hc, hm, hbl, hcell⟩
  · exact .inl h
  · exact .inr ⟨b, off, len, cap, hs, hl, h0, hc, hm, Nat.lt_of_lt_of_le hbl (only_setCell w p v).size, fun i hi => setCell_otherD hp (hcell i hi) (hu _ _)⟩
def GDC1 (w : World) (e : Ending) (w' : World) : Prop := ∃ x y m : Int, e = .returned (.tuple #[.agg #[.int .i64 x, .int .i64 y], .int .i64 m]) ∧ Below w.heap.size w w'
def GDII (w : World) (e : Ending) (w' : World) : Prop := ∃ x y : Int, e = .returned (.tuple #[.int .i64 x, .int .i64 y]) ∧ Below w.heap.size w w'

set_option maxRecDepth 100000 in
set_option maxHeartbeats 4000000 in
theorem DrawHeightWindowC {a : Option Addr} {l c : Nat} {w : World} (h : Byts w w.heap.size (.slice a l c)) : Calls Tryd.prog 5 #[.slice a l c] w (GDC1 w) := by
  unfold GDC1
  go_enter Tryd.func5, Tryd.ntmps5
  go_wp2_with fail
  refine name_worldC (fun W1 hW1 => ?_)
  have hB1 : Below w.heap.size w W1 := by subst hW1; exact (by repeat' (first | (with_reducible exact Below.refl _ _) | (with_reducible assumption) | (with_reducible refine Below.alloc ?_ ?_ _) | (with_reducible refine Below.setCell ?_ ?_ _) | (with_reducible refine Below.drew ?_) | (with_reducible refine below_drewN ?_ _) | (apply bthen2; (with_reducible assumption)) | go_size))
  have hC1 : CurAt W1 (w.heap.size + 1) 0 := by
    refine CurAt.first (v := .slice a l c) ?_ (by refine Byts.monoW (h.below hB1 (Nat.le_refl _)) (by omega))
    subst hW1; exact box_three (by first | omega | (simp; done) | (simp; omega)) (by simp [go_sem]) (by simp [go_sem]) (by simp [go_sem]) (fun o => by simp [go_sem])
  have XR_0 : IBox W1 (w.heap.size) 2 := by subst hW1; (repeat' (first | (with_reducible assumption) | (with_reducible exact IBox.made (by first | rfl | (simp; done) | fail) rfl rfl) | (with_reducible refine IBox.alloc ?_ _) | (with_reducible refine IBox.setI ?_ _ _) | (with_reducible refine IBox.drewN ?_ _)))
  have hz0 := hB1.size; have hcl := hC1.lt
  clear hW1
  obtain ⟨zR0_0, qR0_0⟩ := XR_0.2.1 0 (by omega)
  obtain ⟨zR1_0, qR1_0⟩ := XR_0.2.1 1 (by omega)
  have fR_0 := XR_0.2.2; have lR_0 := XR_0.1
  go_wp2_with fail
  refine (anyCurveC (K := 0) ?_ ?_).mono ?_
  · (repeat' (first | (with_reducible assumption) | (with_reducible refine CurAt.alloc ?_ _) | (with_reducible refine CurAt.set ?_ (by first | omega | (simp; done) | (simp; omega)) _) | (with_reducible refine CurAt.drewN ?_ _) | (with_reducible refine CurAt.drew ?_)))
  · omega
  rintro e1 w1 ⟨x1, y1, rfl, hc1, hg1⟩
  have hz1 := hg1.size
  (try simp only [World.size_alloc, World.size_setCell, World.size_drew, World.heap_drewN] at hz1)
  have XR_1 : IBox w1 (w.heap.size) 2 := by
    refine IBox.chg ?_ hg1 (by show ¬ _ = _; omega)
    (repeat' (first | (with_reducible assumption) | (with_reducible exact IBox.made (by first | rfl | (simp; done) | fail) rfl rfl) | (with_reducible refine IBox.alloc ?_ _) | (with_reducible refine IBox.setI ?_ _ _) | (with_reducible refine IBox.drewN ?_ _)))
  clear qR0_0 qR1_0 fR_0 XR_0
  obtain ⟨zR0_1, qR0_1⟩ := XR_1.2.1 0 (by omega)
  obtain ⟨zR1_1, qR1_1⟩ := XR_1.2.1 1 (by omega)
  have fR_1 := XR_1.2.2; have lR_1 := XR_1.1
  go_wp2_with fail
  refine (amongC (K := 0 + 30) ?_ ?_ ?_ ?_ ?_ ?_ ?_).mono ?_
  · (repeat' (first | (with_reducible assumption) | (with_reducible refine CurAt.alloc ?_ _) | (with_reducible refine CurAt.set ?_ (by first | omega | (simp; done) | (simp; omega)) _) | (with_reducible refine CurAt.drewN ?_ _) | (with_reducible refine CurAt.drew ?_)))
  · omega
  · (first | rfl | (simp; done))
  · rfl
  · (simp; done)
  · (simp; done)
  · rfl
  rintro e2 w2 ⟨r2, rm2, rfl, hc2, hg2⟩
  clear rm2
  have hz2 := hg2.size
  (try simp only [World.size_alloc, World.size_setCell, World.size_drew, World.heap_drewN] at hz2)
  have XR_2 : IBox w2 (w.heap.size) 2 := by
    refine IBox.chg ?_ hg2 (by show ¬ _ = _; omega)
    (repeat' (first | (with_reducible assumption) | (with_reducible exact IBox.made (by first | rfl | (simp; done) | fail) rfl rfl) | (with_reducible refine IBox.alloc ?_ _) | (with_reducible refine IBox.setI ?_ _ _) | (with_reducible refine IBox.drewN ?_ _)))
  clear qR0_1 qR1_1 fR_1 XR_1
  clear hc1
  obtain ⟨zR0_2, qR0_2⟩ := XR_2.2.1 0 (by omega)
  obtain ⟨zR1_2, qR1_2⟩ := XR_2.2.1 1 (by omega)
  have fR_2 := XR_2.2.2; have lR_2 := XR_2.1
  go_wp2_with fail
  refine (amongS (K := 0 + 30 + 2) ?_ ?_ ?_ ?_ ?_ ?_).mono ?_
  · (repeat' (first | (with_reducible assumption) | (with_reducible refine CurAt.alloc ?_ _) | (with_reducible refine CurAt.set ?_ (by first | omega | (simp; done) | (simp; omega)) _) | (with_reducible refine CurAt.drewN ?_ _) | (with_reducible refine CurAt.drew ?_)))
  · omega
  · (repeat' (first | (with_reducible assumption) | (with_reducible exact IBox.made (by first | rfl | (simp; done) | fail) rfl rfl) | (with_reducible refine IBox.alloc ?_ _) | (with_reducible refine IBox.setI ?_ _ _) | (with_reducible refine IBox.drewN ?_ _)))
  · (show ¬ _ = _; omega)
  · omega
  · omega
  rintro e3 w3 ⟨r3, rfl, hc3, hg3⟩
  have hz3 := hg3.size
  (try simp only [World.size_alloc, World.size_setCell, World.size_drew, World.heap_drewN] at hz3)
  have XR_3 : IBox w3 (w.heap.size) 2 := by
    refine IBox.chg ?_ hg3 (by show ¬ _ = _; omega)
    (repeat' (first | (with_reducible assumption) | (with_reducible exact IBox.made (by first | rfl | (simp; done) | fail) rfl rfl) | (with_reducible refine IBox.alloc ?_ _) | (with_reducible refine IBox.setI ?_ _ _) | (with_reducible refine IBox.drewN ?_ _)))
  clear qR0_2 qR1_2 fR_2 XR_2
  clear hc2
  obtain ⟨zR0_3, qR0_3⟩ := XR_3.2.1 0 (by omega)
  obtain ⟨zR1_3, qR1_3⟩ := XR_3.2.1 1 (by omega)
  have fR_3 := XR_3.2.2; have lR_3 := XR_3.1
  go_wp2_with fail
  refine name_worldB (fun WF hWF => ?_)
  have XF : IBox WF (w.heap.size) 2 := by subst hWF; (repeat' (first | (with_reducible assumption) | (with_reducible exact IBox.made (by first | rfl | (simp; done) | fail) rfl rfl) | (with_reducible refine IBox.alloc ?_ _) | (with_reducible refine IBox.setI ?_ _ _) | (with_reducible refine IBox.drewN ?_ _)))
  have hGF : Below w.heap.size w WF := by subst hWF; (repeat' (first | (with_reducible exact Below.refl _ _) | (with_reducible assumption) | (with_reducible refine Below.alloc ?_ ?_ _) | (with_reducible refine Below.setCell ?_ ?_ _) | (with_reducible refine Below.drew ?_) | (with_reducible refine below_drewN ?_ _) | (refine bthenG (by with_reducible assumption) ?_ ?_ ?_) | (refine bthen3 (by with_reducible assumption) ?_ ?_) | omega | (simp; done) | (simp; omega)))
  clear hWF
  obtain ⟨x0, k0⟩ := XF.2.1 0 (by omega)
  obtain ⟨x1, k1⟩ := XF.2.1 1 (by omega)
  have kl := XF.1
  refine bodyPost_ret (v := .tuple #[.agg #[.int .i64 x0, .int .i64 x1], .int .i64 r3]) (by simp [results, Tryd.results5, go_sem, kl, k0, k1]) rfl ?_
  exact ⟨x0, x1, r3, rfl, hGF⟩

set_option maxRecDepth 100000 in
set_option maxHeartbeats 4000000 in
theorem DrawDoublingsForC {a : Option Addr} {l c : Nat} {w : World} (h : Byts w w.heap.size (.slice a l c)) : Calls Tryd.prog 12 #[.slice a l c] w (GDC1 w) := by
  unfold GDC1
  go_enter Tryd.func12, Tryd.ntmps12
  go_wp2_with fail
  refine name_worldC (fun W1 hW1 => ?_)
  have hB1 : Below w.heap.size w W1 := by subst hW1; exact (by repeat' (first | (with_reducible exact Below.refl _ _) | (with_reducible assumption) | (with_reducible refine Below.alloc ?_ ?_ _) | (with_reducible refine Below.setCell ?_ ?_ _) | (with_reducible refine Below.drew ?_) | (with_reducible refine below_drewN ?_ _) | (apply bthen2; (with_reducible assumption)) | go_size))
  have hC1 : CurAt W1 (w.heap.size + 1) 0 := by
    refine CurAt.first (v := .slice a l c) ?_ (by refine Byts.monoW (h.below hB1 (Nat.le_refl _)) (by omega))
    subst hW1; exact box_three (by first | omega | (simp; done) | (simp; omega)) (by simp [go_sem]) (by simp [go_sem]) (by simp [go_sem]) (fun o => by simp [go_sem])
  have XR_0 : IBox W1 (w.heap.size) 2 := by subst hW1; (repeat' (first | (with_reducible assumption) | (with_reducible exact IBox.made (by first | rfl | (simp; done) | fail) rfl rfl) | (with_reducible refine IBox.alloc ?_ _) | (with_reducible refine IBox.setI ?_ _ _) | (with_reducible refine IBox.drewN ?_ _)))
  have hz0 := hB1.size; have hcl := hC1.lt
  clear hW1
  obtain ⟨zR0_0, qR0_0⟩ := XR_0.2.1 0 (by omega)
  obtain ⟨zR1_0, qR1_0⟩ := XR_0.2.1 1 (by omega)
  have fR_0 := XR_0.2.2; have lR_0 := XR_0.1
  go_wp2_with fail
  refine (anyCurveC (K := 0) ?_ ?_).mono ?_
  · (repeat' (first | (with_reducible assumption) | (with_reducible refine CurAt.alloc ?_ _) | (with_reducible refine CurAt.set ?_ (by first | omega | (simp; done) | (simp; omega)) _) | (with_reducible refine CurAt.drewN ?_ _) | (with_reducible refine CurAt.drew ?_)))
  · omega
  rintro e1 w1 ⟨x1, y1, rfl, hc1, hg1⟩
  have hz1 := hg1.size
  (try simp only [World.size_alloc, World.size_setCell, World.size_drew, World.heap_drewN] at hz1)
  have XR_1 : IBox w1 (w.heap.size) 2 := by
    refine IBox.chg ?_ hg1 (by show ¬ _ = _; omega)
    (repeat' (first | (with_reducible assumption) | (with_reducible exact IBox.made (by first | rfl | (simp; done) | fail) rfl rfl) | (with_reducible refine IBox.alloc ?_ _) | (with_reducible refine IBox.setI ?_ _ _) | (with_reducible refine IBox.drewN ?_ _)))
  clear qR0_0 qR1_0 fR_0 XR_0
  obtain ⟨zR0_1, qR0_1⟩ := XR_1.2.1 0 (by omega)
  obtain ⟨zR1_1, qR1_1⟩ := XR_1.2.1 1 (by omega)
  have fR_1 := XR_1.2.2; have lR_1 := XR_1.1
  go_wp2_with fail
  refine (amongC (K := 0 + 30) ?_ ?_ ?_ ?_ ?_ ?_ ?_).mono ?_
  · (repeat' (first | (with_reducible assumption) | (with_reducible refine CurAt.alloc ?_ _) | (with_reducible refine CurAt.set ?_ (by first | omega | (simp; done) | (simp; omega)) _) | (with_reducible refine CurAt.drewN ?_ _) | (with_reducible refine CurAt.drew ?_)))
  · omega
  · (first | rfl | (simp; done))
  · rfl
  · (simp; done)
  · (simp; done)
  · rfl
  rintro e2 w2 ⟨r2, rm2, rfl, hc2, hg2⟩
  clear rm2
  have hz2 := hg2.size
  (try simp only [World.size_alloc, World.size_setCell, World.size_drew, World.heap_drewN] at hz2)
  have XR_2 : IBox w2 (w.heap.size) 2 := by
    refine IBox.chg ?_ hg2 (by show ¬ _ = _; omega)
    (repeat' (first | (with_reducible assumption) | (with_reducible exact IBox.made (by first | rfl | (simp; done) | fail) rfl rfl) | (with_reducible refine IBox.alloc ?_ _) | (with_reducible refine IBox.setI ?_ _ _) | (with_reducible refine IBox.drewN ?_ _)))
  clear qR0_1 qR1_1 fR_1 XR_1
  clear hc1
  obtain ⟨zR0_2, qR0_2⟩ := XR_2.2.1 0 (by omega)
  obtain ⟨zR1_2, qR1_2⟩ := XR_2.2.1 1 (by omega)
  have fR_2 := XR_2.2.2; have lR_2 := XR_2.1
  go_wp2_with fail
  refine (amongS (K := 0 + 30 + 2) ?_ ?_ ?_ ?_ ?_ ?_).mono ?_
  · (repeat' (first | (with_reducible assumption) | (with_reducible refine CurAt.alloc ?_ _) | (with_reducible refine CurAt.set ?_ (by first | omega | (simp; done) | (simp; omega)) _) | (with_reducible refine CurAt.drewN ?_ _) | (with_reducible refine CurAt.drew ?_)))
  · omega
  · (repeat' (first | (with_reducible assumption) | (with_reducible exact IBox.made (by first | rfl | (simp; done) | fail) rfl rfl) | (with_reducible refine IBox.alloc ?_ _) | (with_reducible refine IBox.setI ?_ _ _) | (with_reducible refine IBox.drewN ?_ _)))
  · (show ¬ _ = _; omega)
  · omega
  · omega
  rintro e3 w3 ⟨r3, rfl, hc3, hg3⟩
  have hz3 := hg3.size
  (try simp only [World.size_alloc, World.size_setCell, World.size_drew, World.heap_drewN] at hz3)
  have XR_3 : IBox w3 (w.heap.size) 2 := by
    refine IBox.chg ?_ hg3 (by show ¬ _ = _; omega)
    (repeat' (first | (with_reducible assumption) | (with_reducible exact IBox.made (by first | rfl | (simp; done) | fail) rfl rfl) | (with_reducible refine IBox.alloc ?_ _) | (with_reducible refine IBox.setI ?_ _ _) | (with_reducible refine IBox.drewN ?_ _)))
  clear qR0_2 qR1_2 fR_2 XR_2
  clear hc2
  obtain ⟨zR0_3, qR0_3⟩ := XR_3.2.1 0 (by omega)
  obtain ⟨zR1_3, qR1_3⟩ := XR_3.2.1 1 (by omega)
  have fR_3 := XR_3.2.2; have lR_3 := XR_3.1
  go_wp2_with fail
  refine name_worldB (fun WF hWF => ?_)
  have XF : IBox WF (w.heap.size) 2 := by subst hWF; (repeat' (first | (with_reducible assumption) | (with_reducible exact IBox.made (by first | rfl | (simp; done) | fail) rfl rfl) | (with_reducible refine IBox.alloc ?_ _) | (with_reducible refine IBox.setI ?_ _ _) | (with_reducible refine IBox.drewN ?_ _)))
  have hGF : Below w.heap.size w WF := by subst hWF; (repeat' (first | (with_reducible exact Below.refl _ _) | (with_reducible assumption) | (with_reducible refine Below.alloc ?_ ?_ _) | (with_reducible refine Below.setCell ?_ ?_ _) | (with_reducible refine Below.drew ?_) | (with_reducible refine below_drewN ?_ _) | (refine bthenG (by with_reducible assumption) ?_ ?_ ?_) | (refine bthen3 (by with_reducible assumption) ?_ ?_) | omega | (simp; done) | (simp; omega)))
  clear hWF
  obtain ⟨x0, k0⟩ := XF.2.1 0 (by omega)
  obtain ⟨x1, k1⟩ := XF.2.1 1 (by omega)
  have kl := XF.1
  refine bodyPost_ret (v := .tuple #[.agg #[.int .i64 x0, .int .i64 x1], .int .i64 r3]) (by simp [results, Tryd.results12, go_sem, kl, k0, k1]) rfl ?_
  exact ⟨x0, x1, r3, rfl, hGF⟩

set_option maxRecDepth 100000 in
set_option maxHeartbeats 4000000 in
theorem DrawPointBitsC {a : Option Addr} {l c : Nat} {w : World} (h : Byts w w.heap.size (.slice a l c)) : Calls Tryd.prog 15 #[.slice a l c] w (GDII w) := by
  unfold GDII
  go_enter Tryd.func15, Tryd.ntmps15
  go_wp2_with fail
  refine name_worldC (fun W1 hW1 => ?_)
  have hB1 : Below w.heap.size w W1 := by subst hW1; exact (by repeat' (first | (with_reducible exact Below.refl _ _) | (with_reducible assumption) | (with_reducible refine Below.alloc ?_ ?_ _) | (with_reducible refine Below.setCell ?_ ?_ _) | (with_reducible refine Below.drew ?_) | (with_reducible refine below_drewN ?_ _) | (apply bthen2; (with_reducible assumption)) | go_size))
  have hC1 : CurAt W1 (w.heap.size) 0 := by
    refine CurAt.first (v := .slice a l c) ?_ (by refine Byts.monoW (h.below hB1 (Nat.le_refl _)) (by omega))
    subst hW1; exact box_three (by first | omega | (simp; done) | (simp; omega)) (by simp [go_sem]) (by simp [go_sem]) (by simp [go_sem]) (fun o => by simp [go_sem])
  have hz0 := hB1.size; have hcl := hC1.lt
  clear hW1
  go_wp2_with fail
  refine (pickC (K := 0) ?_ ?_ ?_ ?_).mono ?_
  · (repeat' (first | (with_reducible assumption) | (with_reducible refine CurAt.alloc ?_ _) | (with_reducible refine CurAt.set ?_ (by first | omega | (simp; done) | (simp; omega)) _) | (with_reducible refine CurAt.drewN ?_ _) | (with_reducible refine CurAt.drew ?_)))
  · omega
  · omega
  · omega
  rintro e1 w1 ⟨r1, rfl, ra1, rb1, hc1, hg1⟩
  have hz1 := hg1.size
  (try simp only [World.size_alloc, World.size_setCell, World.size_drew, World.heap_drewN] at hz1)
  go_wp2_with fail
  refine (amongC (K := 0 + 2) ?_ ?_ ?_ ?_ ?_ ?_ ?_).mono ?_
  · (repeat' (first | (with_reducible assumption) | (with_reducible refine CurAt.alloc ?_ _) | (with_reducible refine CurAt.set ?_ (by first | omega | (simp; done) | (simp; omega)) _) | (with_reducible refine CurAt.drewN ?_ _) | (with_reducible refine CurAt.drew ?_)))
  · omega
  · (first | rfl | (simp; done))
  · rfl
  · (simp; done)
  · (simp; done)
  · rfl
  rintro e2 w2 ⟨r2, rm2, rfl, hc2, hg2⟩
  clear rm2
  have hz2 := hg2.size
  (try simp only [World.size_alloc, World.size_setCell, World.size_drew, World.heap_drewN] at hz2)
  clear hc1
  go_wp2_with fail
  refine (amongS (K := 0 + 2 + 2) ?_ ?_ ?_ ?_ ?_ ?_).mono ?_
  · (repeat' (first | (with_reducible assumption) | (with_reducible refine CurAt.alloc ?_ _) | (with_reducible refine CurAt.set ?_ (by first | omega | (simp; done) | (simp; omega)) _) | (with_reducible refine CurAt.drewN ?_ _) | (with_reducible refine CurAt.drew ?_)))
  · omega
  · (repeat' (first | (with_reducible assumption) | (with_reducible exact IBox.made (by first | rfl | (simp; done) | fail) rfl rfl) | (with_reducible refine IBox.alloc ?_ _) | (with_reducible refine IBox.setI ?_ _ _) | (with_reducible refine IBox.drewN ?_ _)))
  · (show ¬ _ = _; omega)
  · omega
  · omega
  rintro e3 w3 ⟨r3, rfl, hc3, hg3⟩
  have hz3 := hg3.size
  (try simp only [World.size_alloc, World.size_setCell, World.size_drew, World.heap_drewN] at hz3)
  clear hc2
  go_wp2_with fail
  refine (amongC (K := 0 + 2 + 2 + 2) ?_ ?_ ?_ ?_ ?_ ?_ ?_).mono ?_
  · (repeat' (first | (with_reducible assumption) | (with_reducible refine CurAt.alloc ?_ _) | (with_reducible refine CurAt.set ?_ (by first | omega | (simp; done) | (simp; omega)) _) | (with_reducible refine CurAt.drewN ?_ _) | (with_reducible refine CurAt.drew ?_)))
  · omega
  · (first | rfl | (simp; done))
  · rfl
  · (simp; done)
  · (simp; done)
  · rfl
  rintro e4 w4 ⟨r4, rm4, rfl, hc4, hg4⟩
  clear rm4
  have hz4 := hg4.size
  (try simp only [World.size_alloc, World.size_setCell, World.size_drew, World.heap_drewN] at hz4)
  clear hc3
  go_wp2_with fail
  refine (amongS (K := 0 + 2 + 2 + 2 + 2) ?_ ?_ ?_ ?_ ?_ ?_).mono ?_
  · (repeat' (first | (with_reducible assumption) | (with_reducible refine CurAt.alloc ?_ _) | (with_reducible refine CurAt.set ?_ (by first | omega | (simp; done) | (simp; omega)) _) | (with_reducible refine CurAt.drewN ?_ _) | (with_reducible refine CurAt.drew ?_)))
  · omega
  · (repeat' (first | (with_reducible assumption) | (with_reducible exact IBox.made (by first | rfl | (simp; done) | fail) rfl rfl) | (with_reducible refine IBox.alloc ?_ _) | (with_reducible refine IBox.setI ?_ _ _) | (with_reducible refine IBox.drewN ?_ _)))
  · (show ¬ _ = _; omega)
  · omega
  · omega
  rintro e5 w5 ⟨r5, rfl, hc5, hg5⟩
  have hz5 := hg5.size
  (try simp only [World.size_alloc, World.size_setCell, World.size_drew, World.heap_drewN] at hz5)
  clear hc4
  go_wp2_with fail
  go_ret2
  exact ⟨_, _, rfl, by (repeat' (first | (with_reducible exact Below.refl _ _) | (with_reducible assumption) | (with_reducible refine Below.alloc ?_ ?_ _) | (with_reducible refine Below.setCell ?_ ?_ _) | (with_reducible refine Below.drew ?_) | (with_reducible refine below_drewN ?_ _) | (refine bthenG (by with_reducible assumption) ?_ ?_ ?_) | (refine bthen3 (by with_reducible assumption) ?_ ?_) | omega | (simp; done) | (simp; omega)))⟩

set_option maxRecDepth 100000 in
set_option maxHeartbeats 4000000 in
theorem DrawDecimalDigitsC {a : Option Addr} {l c : Nat} {w : World} (h : Byts w w.heap.size (.slice a l c)) : Calls Tryd.prog 18 #[.slice a l c] w (GDW w) := by
  unfold GDW
  go_enter Tryd.func18, Tryd.ntmps18
  go_wp2_with fail
  refine name_worldC (fun W1 hW1 => ?_)
  have hB1 : Below w.heap.size w W1 := by subst hW1; exact (by repeat' (first | (with_reducible exact Below.refl _ _) | (with_reducible assumption) | (with_reducible refine Below.alloc ?_ ?_ _) | (with_reducible refine Below.setCell ?_ ?_ _) | (with_reducible refine Below.drew ?_) | (with_reducible refine below_drewN ?_ _) | (apply bthen2; (with_reducible assumption)) | go_size))
  have hz0 : W1.heap.size = w.heap.size + 1 := by subst hW1; simp
  have VR_0 : Box W1 (w.heap.size) [.bool false, .slice none 0 0] := by subst hW1; exact box_two (by first | omega | (simp; done) | (simp; omega)) (by simp [go_sem]) (by simp [go_sem]) (fun o => by simp [go_sem])
  clear hW1
  refine (DrawIsWholeC (Byts.monoW (h.below hB1 (Nat.le_refl _)) (by omega))).mono ?_
  rintro e1 w1 ⟨n, a2, l2, c2, xs, rfl, I1, hx1, hb1⟩
  have VR_1 := VR_0.below hb1; have hz1 := hb1.size
  have v0 := VR_1.2.1 0 _ rfl; have v1 := VR_1.2.1 1 _ rfl; have vl := VR_1.1; have vf := VR_1.2.2
  go_wp2_with fail
  refine name_worldB (fun WF hWF => ?_)
  have XF : Box WF (w.heap.size) [.bool n, .slice a2 l2 c2] := by subst hWF; exact set1of2 (set0of2 VR_1)
  have IF : Ints WF (.slice a2 l2 c2) xs := by subst hWF; exact (I1.setNI v0 (fun k n => by simp) _).setNI (p := ⟨w.heap.size, 1, none⟩) (u := .slice none 0 0) (set0of2 VR_1).c1 (fun k n => by simp) _
  have hGF : Below w.heap.size w WF := by subst hWF; (repeat' (first | (with_reducible exact Below.refl _ _) | (with_reducible assumption) | (with_reducible refine Below.alloc ?_ ?_ _) | (with_reducible refine Below.setCell ?_ ?_ _) | (with_reducible refine Below.drew ?_) | (with_reducible refine below_drewN ?_ _) | (refine bthenG (by with_reducible assumption) ?_ ?_ ?_) | (refine bthen3 (by with_reducible assumption) ?_ ?_) | omega | (simp; done) | (simp; omega)))
  clear hWF
  have k0 := XF.2.1 0 _ rfl; have k1 := XF.2.1 1 _ rfl; have kl := XF.1
  refine bodyPost_ret (v := .agg #[.bool n, .slice a2 l2 c2]) (by simp [results, Tryd.results18, go_sem, kl, k0, k1]) rfl ?_
  exact ⟨_, _, _, _, _, rfl, IF, hx1, hGF⟩

end Go.Proofs.YtfcfjlfobflmaaaDoor
