import Derived.Test.YtjgdajeoeagggaaGreatYCur
import Derived.Test.YtjgdajeoeagggaaGreatYK6
import Derived.Test.YtjgdajeoeagggaaGreatYK3
set_option linter.unusedSimpArgs false
set_option linter.unusedVariables false
namespace Go.Proofs.YtjgdajeoeagggaaGreat
open Go.RowKit
/-! ### drawn curves, quartics, bounds -/
theorem name_worldC {P : Program} {f : FuncId} {args : Array Value} {W : World} {Q : Ending → World → Prop} (h : ∀ V, V = W → Calls P f args V Q) : Calls P f args W Q := h W rfl
theorem name_worldB {P : Program} {f : Func} {R : Ending → World → Prop} {e : Exit} {a : Act} {W : World} (h : ∀ V, V = W → bodyPost P f R e a V) : bodyPost P f R e a W := h W rfl
set_option maxRecDepth 100000 in
set_option maxHeartbeats 4000000 in
theorem curveC {b K : Nat} {w : World} (h : CurAt w b K) (hK : K ≤ 100000000) : Calls Tryz.prog 133 #[.pointer (some ⟨b, 0, none⟩)] w (GR2 b (K + 24) w) := by
  have hblt := h.lt
  unfold GR2
  go_enter Tryz.func133, Tryz.ntmps133
  go_wp2_with fail
  refine (pickC (K := K) ?_ ?_ ?_ ?_).mono ?_
  · exact qa2
  · omega
  · omega
  · omega
  rintro e1 w1 ⟨r1, rfl, ra1, rb1, hc1, hg1⟩
  have hz1 := hg1.size
  (try simp only [wz1, wz2, wz3, wz4] at hz1)
  have XR_1 : IBox w1 (w.heap.size) 2 := by
    refine IBox.chg ?_ hg1 (by show ¬ _ = _; omega)
    exact qa1
  obtain ⟨zR0_1, qR0_1⟩ := XR_1.2.1 0 (by omega)
  obtain ⟨zR1_1, qR1_1⟩ := XR_1.2.1 1 (by omega)
  have fR_1 := XR_1.2.2; have lR_1 := XR_1.1
  go_wp2_with fail
  refine (pickC (K := K + 2) ?_ ?_ ?_ ?_).mono ?_
  · exact qa2
  · omega
  · omega
  · omega
  rintro e2 w2 ⟨r2, rfl, ra2, rb2, hc2, hg2⟩
  have hz2 := hg2.size
  (try simp only [wz1, wz2, wz3, wz4] at hz2)
  have XR_2 : IBox w2 (w.heap.size) 2 := by
    refine IBox.chg ?_ hg2 (by show ¬ _ = _; omega)
    exact qa1
  clear qR0_1 qR1_1 fR_1 XR_1
  clear hc1
  obtain ⟨zR0_2, qR0_2⟩ := XR_2.2.1 0 (by omega)
  obtain ⟨zR1_2, qR1_2⟩ := XR_2.2.1 1 (by omega)
  have fR_2 := XR_2.2.2; have lR_2 := XR_2.1
  go_wp2_with fail
  refine (amongC (K := K + 2 + 2) ?_ ?_ ?_ ?_ ?_ ?_ ?_).mono ?_
  · exact qa2
  · omega
  · (first | rfl | (simp; done))
  · rfl
  · (simp; done)
  · (simp; done)
  · rfl
  rintro e3 w3 ⟨r3, rm3, rfl, hc3, hg3⟩
  clear rm3
  have hz3 := hg3.size
  (try simp only [wz1, wz2, wz3, wz4] at hz3)
  have XR_3 : IBox w3 (w.heap.size) 2 := by
    refine IBox.chg ?_ hg3 (by show ¬ _ = _; omega)
    exact qa1
  clear qR0_2 qR1_2 fR_2 XR_2
  clear hc2
  obtain ⟨zR0_3, qR0_3⟩ := XR_3.2.1 0 (by omega)
  obtain ⟨zR1_3, qR1_3⟩ := XR_3.2.1 1 (by omega)
  have fR_3 := XR_3.2.2; have lR_3 := XR_3.1
  go_wp2_with fail
  refine (pickC (K := K + 2 + 2 + 2) ?_ ?_ ?_ ?_).mono ?_
  · exact qa2
  · omega
  · omega
  · omega
  rintro e4 w4 ⟨r4, rfl, ra4, rb4, hc4, hg4⟩
  have hz4 := hg4.size
  (try simp only [wz1, wz2, wz3, wz4] at hz4)
  have XR_4 : IBox w4 (w.heap.size) 2 := by
    refine IBox.chg ?_ hg4 (by show ¬ _ = _; omega)
    exact qa1
  clear qR0_3 qR1_3 fR_3 XR_3
  clear hc3
  obtain ⟨zR0_4, qR0_4⟩ := XR_4.2.1 0 (by omega)
  obtain ⟨zR1_4, qR1_4⟩ := XR_4.2.1 1 (by omega)
  have fR_4 := XR_4.2.2; have lR_4 := XR_4.1
  go_wp2_with fail
  refine (pickC (K := K + 2 + 2 + 2 + 2) ?_ ?_ ?_ ?_).mono ?_
  · exact qa2
  · omega
  · omega
  · omega
  rintro e5 w5 ⟨r5, rfl, ra5, rb5, hc5, hg5⟩
  have hz5 := hg5.size
  (try simp only [wz1, wz2, wz3, wz4] at hz5)
  have XR_5 : IBox w5 (w.heap.size) 2 := by
    refine IBox.chg ?_ hg5 (by show ¬ _ = _; omega)
    exact qa1
  clear qR0_4 qR1_4 fR_4 XR_4
  clear hc4
  obtain ⟨zR0_5, qR0_5⟩ := XR_5.2.1 0 (by omega)
  obtain ⟨zR1_5, qR1_5⟩ := XR_5.2.1 1 (by omega)
  have fR_5 := XR_5.2.2; have lR_5 := XR_5.1
  go_wp2_with fail
  refine (amongC (K := K + 2 + 2 + 2 + 2 + 2) ?_ ?_ ?_ ?_ ?_ ?_ ?_).mono ?_
  · exact qa2
  · omega
  · (first | rfl | (simp; done))
  · rfl
  · (simp; done)
  · (simp; done)
  · rfl
  rintro e6 w6 ⟨r6, rm6, rfl, hc6, hg6⟩
  clear rm6
  have hz6 := hg6.size
  (try simp only [wz1, wz2, wz3, wz4] at hz6)
  have XR_6 : IBox w6 (w.heap.size) 2 := by
    refine IBox.chg ?_ hg6 (by show ¬ _ = _; omega)
    exact qa1
  clear qR0_5 qR1_5 fR_5 XR_5
  clear hc5
  obtain ⟨zR0_6, qR0_6⟩ := XR_6.2.1 0 (by omega)
  obtain ⟨zR1_6, qR1_6⟩ := XR_6.2.1 1 (by omega)
  have fR_6 := XR_6.2.2; have lR_6 := XR_6.1
  go_wp2_with fail
  refine (oneC (K := K + 2 + 2 + 2 + 2 + 2 + 2) ?_ ?_ ?_).mono ?_
  · exact qa2
  · omega
  · omega
  rintro e7 w7 ⟨r7, rfl, hc7, hg7⟩
  have hz7 := hg7.size
  (try simp only [wz1, wz2, wz3, wz4] at hz7)
  have XR_7 : IBox w7 (w.heap.size) 2 := by
    refine IBox.chg ?_ hg7 (by show ¬ _ = _; omega)
    exact qa1
  have XE_7 : IBox w7 (w6.heap.size) 2 := by
    refine IBox.chg ?_ hg7 (by show ¬ _ = _; omega)
    exact qa1
  clear qR0_6 qR1_6 fR_6 XR_6
  clear hc6
  obtain ⟨zR0_7, qR0_7⟩ := XR_7.2.1 0 (by omega)
  obtain ⟨zR1_7, qR1_7⟩ := XR_7.2.1 1 (by omega)
  have fR_7 := XR_7.2.2; have lR_7 := XR_7.1
  obtain ⟨zE0_7, qE0_7⟩ := XE_7.2.1 0 (by omega)
  obtain ⟨zE1_7, qE1_7⟩ := XE_7.2.1 1 (by omega)
  have fE_7 := XE_7.2.2; have lE_7 := XE_7.1
  cases r7
  · skip
    go_wp2_with fail
    refine (oneC (K := K + 2 + 2 + 2 + 2 + 2 + 2 + 2) ?_ ?_ ?_).mono ?_
    · exact qa2
    · omega
    · omega
    rintro e8 w8 ⟨r8, rfl, hc8, hg8⟩
    have hz8 := hg8.size
    (try simp only [wz1, wz2, wz3, wz4] at hz8)
    have XR_8 : IBox w8 (w.heap.size) 2 := by
      refine IBox.chg ?_ hg8 (by show ¬ _ = _; omega)
      exact qa1
    have XE_8 : IBox w8 (w6.heap.size) 2 := by
      refine IBox.chg ?_ hg8 (by show ¬ _ = _; omega)
      exact qa1
    clear qR0_7 qR1_7 fR_7 XR_7 qE0_7 qE1_7 fE_7 XE_7
    clear hc7
    obtain ⟨zR0_8, qR0_8⟩ := XR_8.2.1 0 (by omega)
    obtain ⟨zR1_8, qR1_8⟩ := XR_8.2.1 1 (by omega)
    have fR_8 := XR_8.2.2; have lR_8 := XR_8.1
    obtain ⟨zE0_8, qE0_8⟩ := XE_8.2.1 0 (by omega)
    obtain ⟨zE1_8, qE1_8⟩ := XE_8.2.1 1 (by omega)
    have fE_8 := XE_8.2.2; have lE_8 := XE_8.1
    cases r8
    · skip
      go_wp2_with fail
      refine name_worldC (fun V9 hV9 => ?_)
      have hcV9 : CurAt V9 b (K + 2 + 2 + 2 + 2 + 2 + 2 + 2 + 2) := by subst hV9; exact qa2
      have hgV9 : ChgS (fun k => k = b) w V9 := by subst hV9; exact qa6
      have YR_9 : IBox V9 (w.heap.size) 2 := by subst hV9; exact qa1
      have YE_9 : IBox V9 (w6.heap.size) 2 := by subst hV9; exact qa1
      clear hV9
      refine ((ecGood_any _ _ _).mono (fun _ _ h => GB.of h)).mono ?_
      rintro e9 w9 ⟨r9, rfl, hb9⟩
      have hg9 := hgV9.trans (ChgS.of_below (S := fun k => k = b) hb9)
      have hc9 := hcV9.below hb9
      have hz9 := hg9.size
      (try simp only [wz1, wz2, wz3, wz4] at hz9)
      have XR_9 := YR_9.below hb9
      have XE_9 := YE_9.below hb9
      clear hcV9 YR_9 YE_9
      clear qR0_8 qR1_8 fR_8 XR_8 qE0_8 qE1_8 fE_8 XE_8
      clear hc8
      obtain ⟨zR0_9, qR0_9⟩ := XR_9.2.1 0 (by omega)
      obtain ⟨zR1_9, qR1_9⟩ := XR_9.2.1 1 (by omega)
      have fR_9 := XR_9.2.2; have lR_9 := XR_9.1
      obtain ⟨zE0_9, qE0_9⟩ := XE_9.2.1 0 (by omega)
      obtain ⟨zE1_9, qE1_9⟩ := XE_9.2.1 1 (by omega)
      have fE_9 := XE_9.2.2; have lE_9 := XE_9.1
      cases r9
      · skip
        go_wp2_with fail
        refine name_worldB (fun WF hWF => ?_)
        have XF : IBox WF (w.heap.size) 2 := by subst hWF; exact qa1
        have hCF : CurAt WF b (K + 2 + 2 + 2 + 2 + 2 + 2 + 2 + 2) := by subst hWF; exact qa2
        have hGF : ChgS (fun k => k = b) w WF := by subst hWF; exact qa6
        clear hWF
        obtain ⟨x0, k0⟩ := XF.2.1 0 (by omega)
        obtain ⟨x1, k1⟩ := XF.2.1 1 (by omega)
        have kl := XF.1
        refine bodyPost_ret (v := .agg #[.int .i64 x0, .int .i64 x1]) (by simp [results, Tryz.results133, go_sem, kl, k0, k1]) rfl ?_
        exact ⟨x0, x1, rfl, hCF.mono (by omega), hGF⟩
      · skip
        go_wp2_with fail
        refine name_worldB (fun WF hWF => ?_)
        have XF : IBox WF (w.heap.size) 2 := by subst hWF; exact qa1
        have hCF : CurAt WF b (K + 2 + 2 + 2 + 2 + 2 + 2 + 2 + 2) := by subst hWF; exact qa2
        have hGF : ChgS (fun k => k = b) w WF := by subst hWF; exact qa6
        clear hWF
        obtain ⟨x0, k0⟩ := XF.2.1 0 (by omega)
        obtain ⟨x1, k1⟩ := XF.2.1 1 (by omega)
        have kl := XF.1
        refine bodyPost_ret (v := .agg #[.int .i64 x0, .int .i64 x1]) (by simp [results, Tryz.results133, go_sem, kl, k0, k1]) rfl ?_
        exact ⟨x0, x1, rfl, hCF.mono (by omega), hGF⟩
    · skip
      go_wp2_with fail
      refine (amongC (K := K + 2 + 2 + 2 + 2 + 2 + 2 + 2 + 2) ?_ ?_ ?_ ?_ ?_ ?_ ?_).mono ?_
      · exact qa2
      · omega
      · (first | rfl | (simp; done))
      · rfl
      · (simp; done)
      · (simp; done)
      · rfl
      rintro e9 w9 ⟨r9, rm9, rfl, hc9, hg9⟩
      clear rm9
      have hz9 := hg9.size
      (try simp only [wz1, wz2, wz3, wz4] at hz9)
      have XR_9 : IBox w9 (w.heap.size) 2 := by
        refine IBox.chg ?_ hg9 (by show ¬ _ = _; omega)
        exact qa1
      have XE_9 : IBox w9 (w6.heap.size) 2 := by
        refine IBox.chg ?_ hg9 (by show ¬ _ = _; omega)
        exact qa1
      clear qR0_8 qR1_8 fR_8 XR_8 qE0_8 qE1_8 fE_8 XE_8
      clear hc8
      obtain ⟨zR0_9, qR0_9⟩ := XR_9.2.1 0 (by omega)
      obtain ⟨zR1_9, qR1_9⟩ := XR_9.2.1 1 (by omega)
      have fR_9 := XR_9.2.2; have lR_9 := XR_9.1
      obtain ⟨zE0_9, qE0_9⟩ := XE_9.2.1 0 (by omega)
      obtain ⟨zE1_9, qE1_9⟩ := XE_9.2.1 1 (by omega)
      have fE_9 := XE_9.2.2; have lE_9 := XE_9.1
      go_wp2_with fail
      refine (amongC (K := K + 2 + 2 + 2 + 2 + 2 + 2 + 2 + 2 + 2) ?_ ?_ ?_ ?_ ?_ ?_ ?_).mono ?_
      · exact qa2
      · omega
      · (first | rfl | (simp; done))
      · rfl
      · (simp; done)
      · (simp; done)
      · rfl
      rintro e10 w10 ⟨r10, rm10, rfl, hc10, hg10⟩
      clear rm10
      have hz10 := hg10.size
      (try simp only [wz1, wz2, wz3, wz4] at hz10)
      have XR_10 : IBox w10 (w.heap.size) 2 := by
        refine IBox.chg ?_ hg10 (by show ¬ _ = _; omega)
        exact qa1
      have XE_10 : IBox w10 (w6.heap.size) 2 := by
        refine IBox.chg ?_ hg10 (by show ¬ _ = _; omega)
        exact qa1
      clear qR0_9 qR1_9 fR_9 XR_9 qE0_9 qE1_9 fE_9 XE_9
      clear hc9
      obtain ⟨zR0_10, qR0_10⟩ := XR_10.2.1 0 (by omega)
      obtain ⟨zR1_10, qR1_10⟩ := XR_10.2.1 1 (by omega)
      have fR_10 := XR_10.2.2; have lR_10 := XR_10.1
      obtain ⟨zE0_10, qE0_10⟩ := XE_10.2.1 0 (by omega)
      obtain ⟨zE1_10, qE1_10⟩ := XE_10.2.1 1 (by omega)
      have fE_10 := XE_10.2.2; have lE_10 := XE_10.1
      go_wp2_with fail
      refine name_worldC (fun V11 hV11 => ?_)
      have hcV11 : CurAt V11 b (K + 2 + 2 + 2 + 2 + 2 + 2 + 2 + 2 + 2 + 2) := by subst hV11; exact qa2
      have hgV11 : ChgS (fun k => k = b) w V11 := by subst hV11; exact qa6
      have YR_11 : IBox V11 (w.heap.size) 2 := by subst hV11; exact qa1
      have YE_11 : IBox V11 (w6.heap.size) 2 := by subst hV11; exact qa1
      clear hV11
      refine ((ecGood_any _ _ _).mono (fun _ _ h => GB.of h)).mono ?_
      rintro e11 w11 ⟨r11, rfl, hb11⟩
      have hg11 := hgV11.trans (ChgS.of_below (S := fun k => k = b) hb11)
      have hc11 := hcV11.below hb11
      have hz11 := hg11.size
      (try simp only [wz1, wz2, wz3, wz4] at hz11)
      have XR_11 := YR_11.below hb11
      have XE_11 := YE_11.below hb11
      clear hcV11 YR_11 YE_11
      clear qR0_10 qR1_10 fR_10 XR_10 qE0_10 qE1_10 fE_10 XE_10
      clear hc10
      obtain ⟨zR0_11, qR0_11⟩ := XR_11.2.1 0 (by omega)
      obtain ⟨zR1_11, qR1_11⟩ := XR_11.2.1 1 (by omega)
      have fR_11 := XR_11.2.2; have lR_11 := XR_11.1
      obtain ⟨zE0_11, qE0_11⟩ := XE_11.2.1 0 (by omega)
      obtain ⟨zE1_11, qE1_11⟩ := XE_11.2.1 1 (by omega)
      have fE_11 := XE_11.2.2; have lE_11 := XE_11.1
      cases r11
      · skip
        go_wp2_with fail
        refine name_worldB (fun WF hWF => ?_)
        have XF : IBox WF (w.heap.size) 2 := by subst hWF; exact qa1
        have hCF : CurAt WF b (K + 2 + 2 + 2 + 2 + 2 + 2 + 2 + 2 + 2 + 2) := by subst hWF; exact qa2
        have hGF : ChgS (fun k => k = b) w WF := by subst hWF; exact qa6
        clear hWF
        obtain ⟨x0, k0⟩ := XF.2.1 0 (by omega)
        obtain ⟨x1, k1⟩ := XF.2.1 1 (by omega)
        have kl := XF.1
        refine bodyPost_ret (v := .agg #[.int .i64 x0, .int .i64 x1]) (by simp [results, Tryz.results133, go_sem, kl, k0, k1]) rfl ?_
        exact ⟨x0, x1, rfl, hCF.mono (by omega), hGF⟩
      · skip
        go_wp2_with fail
        refine name_worldB (fun WF hWF => ?_)
        have XF : IBox WF (w.heap.size) 2 := by subst hWF; exact qa1
        have hCF : CurAt WF b (K + 2 + 2 + 2 + 2 + 2 + 2 + 2 + 2 + 2 + 2) := by subst hWF; exact qa2
        have hGF : ChgS (fun k => k = b) w WF := by subst hWF; exact qa6
        clear hWF
        obtain ⟨x0, k0⟩ := XF.2.1 0 (by omega)
        obtain ⟨x1, k1⟩ := XF.2.1 1 (by omega)
        have kl := XF.1
        refine bodyPost_ret (v := .agg #[.int .i64 x0, .int .i64 x1]) (by simp [results, Tryz.results133, go_sem, kl, k0, k1]) rfl ?_
        exact ⟨x0, x1, rfl, hCF.mono (by omega), hGF⟩
  · skip
    go_wp2_with fail
    refine (pickC (K := K + 2 + 2 + 2 + 2 + 2 + 2 + 2) ?_ ?_ ?_ ?_).mono ?_
    · exact qa2
    · omega
    · omega
    · omega
    rintro e8 w8 ⟨r8, rfl, ra8, rb8, hc8, hg8⟩
    have hz8 := hg8.size
    (try simp only [wz1, wz2, wz3, wz4] at hz8)
    have XR_8 : IBox w8 (w.heap.size) 2 := by
      refine IBox.chg ?_ hg8 (by show ¬ _ = _; omega)
      exact qa1
    have XE_8 : IBox w8 (w6.heap.size) 2 := by
      refine IBox.chg ?_ hg8 (by show ¬ _ = _; omega)
      exact qa1
    clear qR0_7 qR1_7 fR_7 XR_7 qE0_7 qE1_7 fE_7 XE_7
    clear hc7
    obtain ⟨zR0_8, qR0_8⟩ := XR_8.2.1 0 (by omega)
    obtain ⟨zR1_8, qR1_8⟩ := XR_8.2.1 1 (by omega)
    have fR_8 := XR_8.2.2; have lR_8 := XR_8.1
    obtain ⟨zE0_8, qE0_8⟩ := XE_8.2.1 0 (by omega)
    obtain ⟨zE1_8, qE1_8⟩ := XE_8.2.1 1 (by omega)
    have fE_8 := XE_8.2.2; have lE_8 := XE_8.1
    go_wp2_with fail
    refine (pickC (K := K + 2 + 2 + 2 + 2 + 2 + 2 + 2 + 2) ?_ ?_ ?_ ?_).mono ?_
    · exact qa2
    · omega
    · omega
    · omega
    rintro e9 w9 ⟨r9, rfl, ra9, rb9, hc9, hg9⟩
    have hz9 := hg9.size
    (try simp only [wz1, wz2, wz3, wz4] at hz9)
    have XR_9 : IBox w9 (w.heap.size) 2 := by
      refine IBox.chg ?_ hg9 (by show ¬ _ = _; omega)
      exact qa1
    have XE_9 : IBox w9 (w6.heap.size) 2 := by
      refine IBox.chg ?_ hg9 (by show ¬ _ = _; omega)
      exact qa1
    clear qR0_8 qR1_8 fR_8 XR_8 qE0_8 qE1_8 fE_8 XE_8
    clear hc8
    obtain ⟨zR0_9, qR0_9⟩ := XR_9.2.1 0 (by omega)
    obtain ⟨zR1_9, qR1_9⟩ := XR_9.2.1 1 (by omega)
    have fR_9 := XR_9.2.2; have lR_9 := XR_9.1
    obtain ⟨zE0_9, qE0_9⟩ := XE_9.2.1 0 (by omega)
    obtain ⟨zE1_9, qE1_9⟩ := XE_9.2.1 1 (by omega)
    have fE_9 := XE_9.2.2; have lE_9 := XE_9.1
    go_wp2_with fail
    refine (oneC (K := K + 2 + 2 + 2 + 2 + 2 + 2 + 2 + 2 + 2) ?_ ?_ ?_).mono ?_
    · exact qa2
    · omega
    · omega
    rintro e10 w10 ⟨r10, rfl, hc10, hg10⟩
    have hz10 := hg10.size
    (try simp only [wz1, wz2, wz3, wz4] at hz10)
    have XR_10 : IBox w10 (w.heap.size) 2 := by
      refine IBox.chg ?_ hg10 (by show ¬ _ = _; omega)
      exact qa1
    have XE_10 : IBox w10 (w6.heap.size) 2 := by
      refine IBox.chg ?_ hg10 (by show ¬ _ = _; omega)
      exact qa1
    clear qR0_9 qR1_9 fR_9 XR_9 qE0_9 qE1_9 fE_9 XE_9
    clear hc9
    obtain ⟨zR0_10, qR0_10⟩ := XR_10.2.1 0 (by omega)
    obtain ⟨zR1_10, qR1_10⟩ := XR_10.2.1 1 (by omega)
    have fR_10 := XR_10.2.2; have lR_10 := XR_10.1
    obtain ⟨zE0_10, qE0_10⟩ := XE_10.2.1 0 (by omega)
    obtain ⟨zE1_10, qE1_10⟩ := XE_10.2.1 1 (by omega)
    have fE_10 := XE_10.2.2; have lE_10 := XE_10.1
    cases r10
    · skip
      go_wp2_with fail
      refine name_worldC (fun V11 hV11 => ?_)
      have hcV11 : CurAt V11 b (K + 2 + 2 + 2 + 2 + 2 + 2 + 2 + 2 + 2 + 2) := by subst hV11; exact qa2
      have hgV11 : ChgS (fun k => k = b) w V11 := by subst hV11; exact qa6
      have YR_11 : IBox V11 (w.heap.size) 2 := by subst hV11; exact qa1
      have YE_11 : IBox V11 (w6.heap.size) 2 := by subst hV11; exact qa1
      clear hV11
      refine ((ecGood_any _ _ _).mono (fun _ _ h => GB.of h)).mono ?_
      rintro e11 w11 ⟨r11, rfl, hb11⟩
      have hg11 := hgV11.trans (ChgS.of_below (S := fun k => k = b) hb11)
      have hc11 := hcV11.below hb11
      have hz11 := hg11.size
      (try simp only [wz1, wz2, wz3, wz4] at hz11)
      have XR_11 := YR_11.below hb11
      have XE_11 := YE_11.below hb11
      clear hcV11 YR_11 YE_11
      clear qR0_10 qR1_10 fR_10 XR_10 qE0_10 qE1_10 fE_10 XE_10
      clear hc10
      obtain ⟨zR0_11, qR0_11⟩ := XR_11.2.1 0 (by omega)
      obtain ⟨zR1_11, qR1_11⟩ := XR_11.2.1 1 (by omega)
      have fR_11 := XR_11.2.2; have lR_11 := XR_11.1
      obtain ⟨zE0_11, qE0_11⟩ := XE_11.2.1 0 (by omega)
      obtain ⟨zE1_11, qE1_11⟩ := XE_11.2.1 1 (by omega)
      have fE_11 := XE_11.2.2; have lE_11 := XE_11.1
      cases r11
      · skip
        go_wp2_with fail
        refine name_worldB (fun WF hWF => ?_)
        have XF : IBox WF (w.heap.size) 2 := by subst hWF; exact qa1
        have hCF : CurAt WF b (K + 2 + 2 + 2 + 2 + 2 + 2 + 2 + 2 + 2 + 2) := by subst hWF; exact qa2
        have hGF : ChgS (fun k => k = b) w WF := by subst hWF; exact qa6
        clear hWF
        obtain ⟨x0, k0⟩ := XF.2.1 0 (by omega)
        obtain ⟨x1, k1⟩ := XF.2.1 1 (by omega)
        have kl := XF.1
        refine bodyPost_ret (v := .agg #[.int .i64 x0, .int .i64 x1]) (by simp [results, Tryz.results133, go_sem, kl, k0, k1]) rfl ?_
        exact ⟨x0, x1, rfl, hCF.mono (by omega), hGF⟩
      · skip
        go_wp2_with fail
        refine name_worldB (fun WF hWF => ?_)
        have XF : IBox WF (w.heap.size) 2 := by subst hWF; exact qa1
        have hCF : CurAt WF b (K + 2 + 2 + 2 + 2 + 2 + 2 + 2 + 2 + 2 + 2) := by subst hWF; exact qa2
        have hGF : ChgS (fun k => k = b) w WF := by subst hWF; exact qa6
        clear hWF
        obtain ⟨x0, k0⟩ := XF.2.1 0 (by omega)
        obtain ⟨x1, k1⟩ := XF.2.1 1 (by omega)
        have kl := XF.1
        refine bodyPost_ret (v := .agg #[.int .i64 x0, .int .i64 x1]) (by simp [results, Tryz.results133, go_sem, kl, k0, k1]) rfl ?_
        exact ⟨x0, x1, rfl, hCF.mono (by omega), hGF⟩
    · skip
      go_wp2_with fail
      refine (amongC (K := K + 2 + 2 + 2 + 2 + 2 + 2 + 2 + 2 + 2 + 2) ?_ ?_ ?_ ?_ ?_ ?_ ?_).mono ?_
      · exact qa2
      · omega
      · (first | rfl | (simp; done))
      · rfl
      · (simp; done)
      · (simp; done)
      · rfl
      rintro e11 w11 ⟨r11, rm11, rfl, hc11, hg11⟩
      clear rm11
      have hz11 := hg11.size
      (try simp only [wz1, wz2, wz3, wz4] at hz11)
      have XR_11 : IBox w11 (w.heap.size) 2 := by
        refine IBox.chg ?_ hg11 (by show ¬ _ = _; omega)
        exact qa1
      have XE_11 : IBox w11 (w6.heap.size) 2 := by
        refine IBox.chg ?_ hg11 (by show ¬ _ = _; omega)
        exact qa1
      clear qR0_10 qR1_10 fR_10 XR_10 qE0_10 qE1_10 fE_10 XE_10
      clear hc10
      obtain ⟨zR0_11, qR0_11⟩ := XR_11.2.1 0 (by omega)
      obtain ⟨zR1_11, qR1_11⟩ := XR_11.2.1 1 (by omega)
      have fR_11 := XR_11.2.2; have lR_11 := XR_11.1
      obtain ⟨zE0_11, qE0_11⟩ := XE_11.2.1 0 (by omega)
      obtain ⟨zE1_11, qE1_11⟩ := XE_11.2.1 1 (by omega)
      have fE_11 := XE_11.2.2; have lE_11 := XE_11.1
      go_wp2_with fail
      refine (amongC (K := K + 2 + 2 + 2 + 2 + 2 + 2 + 2 + 2 + 2 + 2 + 2) ?_ ?_ ?_ ?_ ?_ ?_ ?_).mono ?_
      · exact qa2
      · omega
      · (first | rfl | (simp; done))
      · rfl
      · (simp; done)
      · (simp; done)
      · rfl
      rintro e12 w12 ⟨r12, rm12, rfl, hc12, hg12⟩
      clear rm12
      have hz12 := hg12.size
      (try simp only [wz1, wz2, wz3, wz4] at hz12)
      have XR_12 : IBox w12 (w.heap.size) 2 := by
        refine IBox.chg ?_ hg12 (by show ¬ _ = _; omega)
        exact qa1
      have XE_12 : IBox w12 (w6.heap.size) 2 := by
        refine IBox.chg ?_ hg12 (by show ¬ _ = _; omega)
        exact qa1
      clear qR0_11 qR1_11 fR_11 XR_11 qE0_11 qE1_11 fE_11 XE_11
      clear hc11
      obtain ⟨zR0_12, qR0_12⟩ := XR_12.2.1 0 (by omega)
      obtain ⟨zR1_12, qR1_12⟩ := XR_12.2.1 1 (by omega)
      have fR_12 := XR_12.2.2; have lR_12 := XR_12.1
      obtain ⟨zE0_12, qE0_12⟩ := XE_12.2.1 0 (by omega)
      obtain ⟨zE1_12, qE1_12⟩ := XE_12.2.1 1 (by omega)
      have fE_12 := XE_12.2.2; have lE_12 := XE_12.1
      go_wp2_with fail
      refine name_worldC (fun V13 hV13 => ?_)
      have hcV13 : CurAt V13 b (K + 2 + 2 + 2 + 2 + 2 + 2 + 2 + 2 + 2 + 2 + 2 + 2) := by subst hV13; exact qa2
      have hgV13 : ChgS (fun k => k = b) w V13 := by subst hV13; exact qa6
      have YR_13 : IBox V13 (w.heap.size) 2 := by subst hV13; exact qa1
      have YE_13 : IBox V13 (w6.heap.size) 2 := by subst hV13; exact qa1
      clear hV13
      refine ((ecGood_any _ _ _).mono (fun _ _ h => GB.of h)).mono ?_
      rintro e13 w13 ⟨r13, rfl, hb13⟩
      have hg13 := hgV13.trans (ChgS.of_below (S := fun k => k = b) hb13)
      have hc13 := hcV13.below hb13
      have hz13 := hg13.size
      (try simp only [wz1, wz2, wz3, wz4] at hz13)
      have XR_13 := YR_13.below hb13
      have XE_13 := YE_13.below hb13
      clear hcV13 YR_13 YE_13
      clear qR0_12 qR1_12 fR_12 XR_12 qE0_12 qE1_12 fE_12 XE_12
      clear hc12
      obtain ⟨zR0_13, qR0_13⟩ := XR_13.2.1 0 (by omega)
      obtain ⟨zR1_13, qR1_13⟩ := XR_13.2.1 1 (by omega)
      have fR_13 := XR_13.2.2; have lR_13 := XR_13.1
      obtain ⟨zE0_13, qE0_13⟩ := XE_13.2.1 0 (by omega)
      obtain ⟨zE1_13, qE1_13⟩ := XE_13.2.1 1 (by omega)
      have fE_13 := XE_13.2.2; have lE_13 := XE_13.1
      cases r13
      · skip
        go_wp2_with fail
        refine name_worldB (fun WF hWF => ?_)
        have XF : IBox WF (w.heap.size) 2 := by subst hWF; exact qa1
        have hCF : CurAt WF b (K + 2 + 2 + 2 + 2 + 2 + 2 + 2 + 2 + 2 + 2 + 2 + 2) := by subst hWF; exact qa2
        have hGF : ChgS (fun k => k = b) w WF := by subst hWF; exact qa6
        clear hWF
        obtain ⟨x0, k0⟩ := XF.2.1 0 (by omega)
        obtain ⟨x1, k1⟩ := XF.2.1 1 (by omega)
        have kl := XF.1
        refine bodyPost_ret (v := .agg #[.int .i64 x0, .int .i64 x1]) (by simp [results, Tryz.results133, go_sem, kl, k0, k1]) rfl ?_
        exact ⟨x0, x1, rfl, hCF.mono (by omega), hGF⟩
      · skip
        go_wp2_with fail
        refine name_worldB (fun WF hWF => ?_)
        have XF : IBox WF (w.heap.size) 2 := by subst hWF; exact qa1
        have hCF : CurAt WF b (K + 2 + 2 + 2 + 2 + 2 + 2 + 2 + 2 + 2 + 2 + 2 + 2) := by subst hWF; exact qa2
        have hGF : ChgS (fun k => k = b) w WF := by subst hWF; exact qa6
        clear hWF
        obtain ⟨x0, k0⟩ := XF.2.1 0 (by omega)
        obtain ⟨x1, k1⟩ := XF.2.1 1 (by omega)
        have kl := XF.1
        refine bodyPost_ret (v := .agg #[.int .i64 x0, .int .i64 x1]) (by simp [results, Tryz.results133, go_sem, kl, k0, k1]) rfl ?_
        exact ⟨x0, x1, rfl, hCF.mono (by omega), hGF⟩
set_option maxRecDepth 100000 in
set_option maxHeartbeats 4000000 in
theorem anyCurveC {b K : Nat} {w : World} (h : CurAt w b K) (hK : K ≤ 10000000) : Calls Tryz.prog 103 #[.pointer (some ⟨b, 0, none⟩)] w (GR2 b (K + 30) w) := by
  have hblt := h.lt
  unfold GR2
  go_enter Tryz.func103, Tryz.ntmps103
  go_wp2_with fail
  refine (curveC (K := K) ?_ ?_).mono ?_
  · exact qa2
  · omega
  rintro e1 w1 ⟨x1, y1, rfl, hc1, hg1⟩
  have hz1 := hg1.size
  (try simp only [wz1, wz2, wz3, wz4] at hz1)
  have XR_1 : IBox w1 (w.heap.size) 2 := by
    refine IBox.chg ?_ hg1 (by show ¬ _ = _; omega)
    exact qa1
  obtain ⟨zR0_1, qR0_1⟩ := XR_1.2.1 0 (by omega)
  obtain ⟨zR1_1, qR1_1⟩ := XR_1.2.1 1 (by omega)
  have fR_1 := XR_1.2.2; have lR_1 := XR_1.1
  go_wp2_with fail
  refine (pickC (K := K + 24) ?_ ?_ ?_ ?_).mono ?_
  · exact qa2
  · omega
  · omega
  · omega
  rintro e2 w2 ⟨r2, rfl, ra2, rb2, hc2, hg2⟩
  have hz2 := hg2.size
  (try simp only [wz1, wz2, wz3, wz4] at hz2)
  have XR_2 : IBox w2 (w.heap.size) 2 := by
    refine IBox.chg ?_ hg2 (by show ¬ _ = _; omega)
    exact qa1
  have XE_2 : IBox w2 (w1.heap.size) 2 := by
    refine IBox.chg ?_ hg2 (by show ¬ _ = _; omega)
    exact qa1
  clear qR0_1 qR1_1 fR_1 XR_1
  clear hc1
  obtain ⟨zR0_2, qR0_2⟩ := XR_2.2.1 0 (by omega)
  obtain ⟨zR1_2, qR1_2⟩ := XR_2.2.1 1 (by omega)
  have fR_2 := XR_2.2.2; have lR_2 := XR_2.1
  obtain ⟨zE0_2, qE0_2⟩ := XE_2.2.1 0 (by omega)
  obtain ⟨zE1_2, qE1_2⟩ := XE_2.2.1 1 (by omega)
  have fE_2 := XE_2.2.2; have lE_2 := XE_2.1
  by_cases hs2_0 : r2 = 0
  · subst hs2_0
    go_wp2_with fail
    refine (amongC (K := K + 24 + 2) ?_ ?_ ?_ ?_ ?_ ?_ ?_).mono ?_
    · exact qa2
    · omega
    · (first | rfl | (simp; done))
    · rfl
    · (simp; done)
    · (simp; done)
    · rfl
    rintro e3 w3 ⟨r3, rm3, rfl, hc3, hg3⟩
    clear rm3
    have hz3 := hg3.size
    (try simp only [wz1, wz2, wz3, wz4] at hz3)
    have XR_3 : IBox w3 (w.heap.size) 2 := by
      refine IBox.chg ?_ hg3 (by show ¬ _ = _; omega)
      exact qa1
    have XE_3 : IBox w3 (w1.heap.size) 2 := by
      refine IBox.chg ?_ hg3 (by show ¬ _ = _; omega)
      exact qa1
    clear qR0_2 qR1_2 fR_2 XR_2 qE0_2 qE1_2 fE_2 XE_2
    clear hc2
    obtain ⟨zR0_3, qR0_3⟩ := XR_3.2.1 0 (by omega)
    obtain ⟨zR1_3, qR1_3⟩ := XR_3.2.1 1 (by omega)
    have fR_3 := XR_3.2.2; have lR_3 := XR_3.1
    obtain ⟨zE0_3, qE0_3⟩ := XE_3.2.1 0 (by omega)
    obtain ⟨zE1_3, qE1_3⟩ := XE_3.2.1 1 (by omega)
    have fE_3 := XE_3.2.2; have lE_3 := XE_3.1
    go_wp2_with fail
    refine name_worldB (fun WF hWF => ?_)
    have XF : IBox WF (w.heap.size) 2 := by subst hWF; exact qa1
    have hCF : CurAt WF b (K + 24 + 2 + 2) := by subst hWF; exact qa2
    have hGF : ChgS (fun k => k = b) w WF := by subst hWF; exact qa6
    clear hWF
    obtain ⟨x0, k0⟩ := XF.2.1 0 (by omega)
    obtain ⟨x1, k1⟩ := XF.2.1 1 (by omega)
    have kl := XF.1
    refine bodyPost_ret (v := .agg #[.int .i64 x0, .int .i64 x1]) (by simp [results, Tryz.results103, go_sem, kl, k0, k1]) rfl ?_
    exact ⟨x0, x1, rfl, hCF.mono (by omega), hGF⟩
  · have hq2_0 : (r2 == 0) = false := by simpa using hs2_0
    by_cases hs2_1 : r2 = 1
    · subst hs2_1
      go_wp2_with fail
      refine (amongC (K := K + 24 + 2) ?_ ?_ ?_ ?_ ?_ ?_ ?_).mono ?_
      · exact qa2
      · omega
      · (first | rfl | (simp; done))
      · rfl
      · (simp; done)
      · (simp; done)
      · rfl
      rintro e3 w3 ⟨r3, rm3, rfl, hc3, hg3⟩
      clear rm3
      have hz3 := hg3.size
      (try simp only [wz1, wz2, wz3, wz4] at hz3)
      have XR_3 : IBox w3 (w.heap.size) 2 := by
        refine IBox.chg ?_ hg3 (by show ¬ _ = _; omega)
        exact qa1
      have XE_3 : IBox w3 (w1.heap.size) 2 := by
        refine IBox.chg ?_ hg3 (by show ¬ _ = _; omega)
        exact qa1
      clear qR0_2 qR1_2 fR_2 XR_2 qE0_2 qE1_2 fE_2 XE_2
      clear hc2
      obtain ⟨zR0_3, qR0_3⟩ := XR_3.2.1 0 (by omega)
      obtain ⟨zR1_3, qR1_3⟩ := XR_3.2.1 1 (by omega)
      have fR_3 := XR_3.2.2; have lR_3 := XR_3.1
      obtain ⟨zE0_3, qE0_3⟩ := XE_3.2.1 0 (by omega)
      obtain ⟨zE1_3, qE1_3⟩ := XE_3.2.1 1 (by omega)
      have fE_3 := XE_3.2.2; have lE_3 := XE_3.1
      go_wp2_with fail
      refine name_worldB (fun WF hWF => ?_)
      have XF : IBox WF (w.heap.size) 2 := by subst hWF; exact qa1
      have hCF : CurAt WF b (K + 24 + 2 + 2) := by subst hWF; exact qa2
      have hGF : ChgS (fun k => k = b) w WF := by subst hWF; exact qa6
      clear hWF
      obtain ⟨x0, k0⟩ := XF.2.1 0 (by omega)
      obtain ⟨x1, k1⟩ := XF.2.1 1 (by omega)
      have kl := XF.1
      refine bodyPost_ret (v := .agg #[.int .i64 x0, .int .i64 x1]) (by simp [results, Tryz.results103, go_sem, kl, k0, k1]) rfl ?_
      exact ⟨x0, x1, rfl, hCF.mono (by omega), hGF⟩
    · have hq2_1 : (r2 == 1) = false := by simpa using hs2_1
      by_cases hs2_2 : r2 = 2
      · subst hs2_2
        go_wp2_with fail
        refine (amongC (K := K + 24 + 2) ?_ ?_ ?_ ?_ ?_ ?_ ?_).mono ?_
        · exact qa2
        · omega
        · (first | rfl | (simp; done))
        · rfl
        · (simp; done)
        · (simp; done)
        · rfl
        rintro e3 w3 ⟨r3, rm3, rfl, hc3, hg3⟩
        clear rm3
        have hz3 := hg3.size
        (try simp only [wz1, wz2, wz3, wz4] at hz3)
        have XR_3 : IBox w3 (w.heap.size) 2 := by
          refine IBox.chg ?_ hg3 (by show ¬ _ = _; omega)
          exact qa1
        have XE_3 : IBox w3 (w1.heap.size) 2 := by
          refine IBox.chg ?_ hg3 (by show ¬ _ = _; omega)
          exact qa1
        clear qR0_2 qR1_2 fR_2 XR_2 qE0_2 qE1_2 fE_2 XE_2
        clear hc2
        obtain ⟨zR0_3, qR0_3⟩ := XR_3.2.1 0 (by omega)
        obtain ⟨zR1_3, qR1_3⟩ := XR_3.2.1 1 (by omega)
        have fR_3 := XR_3.2.2; have lR_3 := XR_3.1
        obtain ⟨zE0_3, qE0_3⟩ := XE_3.2.1 0 (by omega)
        obtain ⟨zE1_3, qE1_3⟩ := XE_3.2.1 1 (by omega)
        have fE_3 := XE_3.2.2; have lE_3 := XE_3.1
        go_wp2_with fail
        refine (amongC (K := K + 24 + 2 + 2) ?_ ?_ ?_ ?_ ?_ ?_ ?_).mono ?_
        · exact qa2
        · omega
        · (first | rfl | (simp; done))
        · rfl
        · (simp; done)
        · (simp; done)
        · rfl
        rintro e4 w4 ⟨r4, rm4, rfl, hc4, hg4⟩
        clear rm4
        have hz4 := hg4.size
        (try simp only [wz1, wz2, wz3, wz4] at hz4)
        have XR_4 : IBox w4 (w.heap.size) 2 := by
          refine IBox.chg ?_ hg4 (by show ¬ _ = _; omega)
          exact qa1
        have XE_4 : IBox w4 (w1.heap.size) 2 := by
          refine IBox.chg ?_ hg4 (by show ¬ _ = _; omega)
          exact qa1
        clear qR0_3 qR1_3 fR_3 XR_3 qE0_3 qE1_3 fE_3 XE_3
        clear hc3
        obtain ⟨zR0_4, qR0_4⟩ := XR_4.2.1 0 (by omega)
        obtain ⟨zR1_4, qR1_4⟩ := XR_4.2.1 1 (by omega)
        have fR_4 := XR_4.2.2; have lR_4 := XR_4.1
        obtain ⟨zE0_4, qE0_4⟩ := XE_4.2.1 0 (by omega)
        obtain ⟨zE1_4, qE1_4⟩ := XE_4.2.1 1 (by omega)
        have fE_4 := XE_4.2.2; have lE_4 := XE_4.1
        go_wp2_with fail
        refine name_worldB (fun WF hWF => ?_)
        have XF : IBox WF (w.heap.size) 2 := by subst hWF; exact qa1
        have hCF : CurAt WF b (K + 24 + 2 + 2 + 2) := by subst hWF; exact qa2
        have hGF : ChgS (fun k => k = b) w WF := by subst hWF; exact qa6
        clear hWF
        obtain ⟨x0, k0⟩ := XF.2.1 0 (by omega)
        obtain ⟨x1, k1⟩ := XF.2.1 1 (by omega)
        have kl := XF.1
        refine bodyPost_ret (v := .agg #[.int .i64 x0, .int .i64 x1]) (by simp [results, Tryz.results103, go_sem, kl, k0, k1]) rfl ?_
        exact ⟨x0, x1, rfl, hCF.mono (by omega), hGF⟩
      · have hq2_2 : (r2 == 2) = false := by simpa using hs2_2
        go_wp2_with fail
        refine name_worldB (fun WF hWF => ?_)
        have XF : IBox WF (w.heap.size) 2 := by subst hWF; exact qa1
        have hCF : CurAt WF b (K + 24 + 2) := by subst hWF; exact qa2
        have hGF : ChgS (fun k => k = b) w WF := by subst hWF; exact qa6
        clear hWF
        obtain ⟨x0, k0⟩ := XF.2.1 0 (by omega)
        obtain ⟨x1, k1⟩ := XF.2.1 1 (by omega)
        have kl := XF.1
        refine bodyPost_ret (v := .agg #[.int .i64 x0, .int .i64 x1]) (by simp [results, Tryz.results103, go_sem, kl, k0, k1]) rfl ?_
        exact ⟨x0, x1, rfl, hCF.mono (by omega), hGF⟩
set_option maxRecDepth 100000 in
set_option maxHeartbeats 4000000 in
theorem wealthyC {b K : Nat} {w : World} (h : CurAt w b K) (hK : K ≤ 1000000) : Calls Tryz.prog 104 #[.pointer (some ⟨b, 0, none⟩)] w (GR2 b (K + 40) w) := by
  have hblt := h.lt
  unfold GR2
  go_enter Tryz.func104, Tryz.ntmps104
  go_wp2_with fail
  refine (oneC (K := K) ?_ ?_ ?_).mono ?_
  · exact qa2
  · omega
  · omega
  rintro e1 w1 ⟨r1, rfl, hc1, hg1⟩
  have hz1 := hg1.size
  (try simp only [wz1, wz2, wz3, wz4] at hz1)
  have XR_1 : IBox w1 (w.heap.size) 2 := by
    refine IBox.chg ?_ hg1 (by show ¬ _ = _; omega)
    exact qa1
  obtain ⟨zR0_1, qR0_1⟩ := XR_1.2.1 0 (by omega)
  obtain ⟨zR1_1, qR1_1⟩ := XR_1.2.1 1 (by omega)
  have fR_1 := XR_1.2.2; have lR_1 := XR_1.1
  cases r1
  · skip
    go_wp2_with fail
    refine (pickC (K := K + 2) ?_ ?_ ?_ ?_).mono ?_
    · exact qa2
    · omega
    · omega
    · omega
    rintro e2 w2 ⟨r2, rfl, ra2, rb2, hc2, hg2⟩
    have hz2 := hg2.size
    (try simp only [wz1, wz2, wz3, wz4] at hz2)
    have XR_2 : IBox w2 (w.heap.size) 2 := by
      refine IBox.chg ?_ hg2 (by show ¬ _ = _; omega)
      exact qa1
    clear qR0_1 qR1_1 fR_1 XR_1
    clear hc1
    obtain ⟨zR0_2, qR0_2⟩ := XR_2.2.1 0 (by omega)
    obtain ⟨zR1_2, qR1_2⟩ := XR_2.2.1 1 (by omega)
    have fR_2 := XR_2.2.2; have lR_2 := XR_2.1
    go_wp2_with fail
    refine (pickC (K := K + 2 + 2) ?_ ?_ ?_ ?_).mono ?_
    · exact qa2
    · omega
    · omega
    · omega
    rintro e3 w3 ⟨r3, rfl, ra3, rb3, hc3, hg3⟩
    have hz3 := hg3.size
    (try simp only [wz1, wz2, wz3, wz4] at hz3)
    have XR_3 : IBox w3 (w.heap.size) 2 := by
      refine IBox.chg ?_ hg3 (by show ¬ _ = _; omega)
      exact qa1
    clear qR0_2 qR1_2 fR_2 XR_2
    clear hc2
    obtain ⟨zR0_3, qR0_3⟩ := XR_3.2.1 0 (by omega)
    obtain ⟨zR1_3, qR1_3⟩ := XR_3.2.1 1 (by omega)
    have fR_3 := XR_3.2.2; have lR_3 := XR_3.1
    go_wp2_with fail
    refine (pickC (K := K + 2 + 2 + 2) ?_ ?_ ?_ ?_).mono ?_
    · exact qa2
    · omega
    · omega
    · omega
    rintro e4 w4 ⟨r4, rfl, ra4, rb4, hc4, hg4⟩
    have hz4 := hg4.size
    (try simp only [wz1, wz2, wz3, wz4] at hz4)
    have XR_4 : IBox w4 (w.heap.size) 2 := by
      refine IBox.chg ?_ hg4 (by show ¬ _ = _; omega)
      exact qa1
    clear qR0_3 qR1_3 fR_3 XR_3
    clear hc3
    obtain ⟨zR0_4, qR0_4⟩ := XR_4.2.1 0 (by omega)
    obtain ⟨zR1_4, qR1_4⟩ := XR_4.2.1 1 (by omega)
    have fR_4 := XR_4.2.2; have lR_4 := XR_4.1
    go_wp2_with fail
    refine name_worldC (fun V5 hV5 => ?_)
    have hcV5 : CurAt V5 b (K + 2 + 2 + 2 + 2) := by subst hV5; exact qa2
    have hgV5 : ChgS (fun k => k = b) w V5 := by subst hV5; exact qa6
    have YR_5 : IBox V5 (w.heap.size) 2 := by subst hV5; exact qa1
    have YE_5 : IBox V5 (w4.heap.size) 2 := by subst hV5; exact qa1
    clear hV5
    refine ((ecGood_any _ _ _).mono (fun _ _ h => GB.of h)).mono ?_
    rintro e5 w5 ⟨r5, rfl, hb5⟩
    have hg5 := hgV5.trans (ChgS.of_below (S := fun k => k = b) hb5)
    have hc5 := hcV5.below hb5
    have hz5 := hg5.size
    (try simp only [wz1, wz2, wz3, wz4] at hz5)
    have XR_5 := YR_5.below hb5
    have XE_5 := YE_5.below hb5
    clear hcV5 YR_5 YE_5
    clear qR0_4 qR1_4 fR_4 XR_4
    clear hc4
    obtain ⟨zR0_5, qR0_5⟩ := XR_5.2.1 0 (by omega)
    obtain ⟨zR1_5, qR1_5⟩ := XR_5.2.1 1 (by omega)
    have fR_5 := XR_5.2.2; have lR_5 := XR_5.1
    obtain ⟨zE0_5, qE0_5⟩ := XE_5.2.1 0 (by omega)
    obtain ⟨zE1_5, qE1_5⟩ := XE_5.2.1 1 (by omega)
    have fE_5 := XE_5.2.2; have lE_5 := XE_5.1
    cases r5
    · skip
      go_wp2_with fail
      refine name_worldB (fun WF hWF => ?_)
      have XF : IBox WF (w.heap.size) 2 := by subst hWF; exact qa1
      have hCF : CurAt WF b (K + 2 + 2 + 2 + 2) := by subst hWF; exact qa2
      have hGF : ChgS (fun k => k = b) w WF := by subst hWF; exact qa6
      clear hWF
      obtain ⟨x0, k0⟩ := XF.2.1 0 (by omega)
      obtain ⟨x1, k1⟩ := XF.2.1 1 (by omega)
      have kl := XF.1
      refine bodyPost_ret (v := .agg #[.int .i64 x0, .int .i64 x1]) (by simp [results, Tryz.results104, go_sem, kl, k0, k1]) rfl ?_
      exact ⟨x0, x1, rfl, hCF.mono (by omega), hGF⟩
    · skip
      go_wp2_with fail
      refine name_worldB (fun WF hWF => ?_)
      have XF : IBox WF (w.heap.size) 2 := by subst hWF; exact qa1
      have hCF : CurAt WF b (K + 2 + 2 + 2 + 2) := by subst hWF; exact qa2
      have hGF : ChgS (fun k => k = b) w WF := by subst hWF; exact qa6
      clear hWF
      obtain ⟨x0, k0⟩ := XF.2.1 0 (by omega)
      obtain ⟨x1, k1⟩ := XF.2.1 1 (by omega)
      have kl := XF.1
      refine bodyPost_ret (v := .agg #[.int .i64 x0, .int .i64 x1]) (by simp [results, Tryz.results104, go_sem, kl, k0, k1]) rfl ?_
      exact ⟨x0, x1, rfl, hCF.mono (by omega), hGF⟩
  · skip
    go_wp2_with fail
    refine (anyCurveC (K := K + 2) ?_ ?_).mono ?_
    · exact qa2
    · omega
    rintro e2 w2 ⟨x2, y2, rfl, hc2, hg2⟩
    have hz2 := hg2.size
    (try simp only [wz1, wz2, wz3, wz4] at hz2)
    have XR_2 : IBox w2 (w.heap.size) 2 := by
      refine IBox.chg ?_ hg2 (by show ¬ _ = _; omega)
      exact qa1
    clear qR0_1 qR1_1 fR_1 XR_1
    clear hc1
    obtain ⟨zR0_2, qR0_2⟩ := XR_2.2.1 0 (by omega)
    obtain ⟨zR1_2, qR1_2⟩ := XR_2.2.1 1 (by omega)
    have fR_2 := XR_2.2.2; have lR_2 := XR_2.1
    go_wp2_with fail
    refine name_worldB (fun WF hWF => ?_)
    have XF : IBox WF (w.heap.size) 2 := by subst hWF; exact qa1
    have hCF : CurAt WF b (K + 2 + 30) := by subst hWF; exact qa2
    have hGF : ChgS (fun k => k = b) w WF := by subst hWF; exact qa6
    clear hWF
    obtain ⟨x0, k0⟩ := XF.2.1 0 (by omega)
    obtain ⟨x1, k1⟩ := XF.2.1 1 (by omega)
    have kl := XF.1
    refine bodyPost_ret (v := .agg #[.int .i64 x0, .int .i64 x1]) (by simp [results, Tryz.results104, go_sem, kl, k0, k1]) rfl ?_
    exact ⟨x0, x1, rfl, hCF.mono (by omega), hGF⟩
end Go.Proofs.YtjgdajeoeagggaaGreat
