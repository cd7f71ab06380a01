import Derived.Test.YtjgdajeoeagggaaGreatYMlB
set_option linter.unusedSimpArgs false
set_option linter.unusedVariables false
namespace Go.Proofs.YtjgdajeoeagggaaGreat
open Go.RowKit
/-! ### drawn curves with torsion -/
def GDC (w : World) (e : Ending) (w' : World) : Prop := ∃ x y : Int, e = .returned (.agg #[.int .i64 x, .int .i64 y]) ∧ Below w.heap.size w w'
def GDCI (w : World) (e : Ending) (w' : World) : Prop := ∃ x y m : Int, e = .returned (.tuple #[.agg #[.int .i64 x, .int .i64 y], .int .i64 m]) ∧ Below w.heap.size w w'
set_option maxRecDepth 100000 in
set_option maxHeartbeats 4000000 in
theorem withTorsionC {b K : Nat} {w : World} (h : CurAt w b K) (hK : K ≤ 100000) : Calls Tryz.prog 66 #[.pointer (some ⟨b, 0, none⟩)] w (GR2 b (K + 60) w) := by
  have hblt := h.lt
  unfold GR2
  go_enter Tryz.func66, Tryz.ntmps66
  go_wp2_with fail
  refine (pickC (K := K) ?_ ?_ ?_ ?_).mono ?_
  · exact qa4
  · omega
  · omega
  · omega
  rintro e1 w1 ⟨r1, rfl, ra1, rb1, hc1, hg1⟩
  have hz1 := hg1.size
  (try simp only [wz1, wz2, wz3, wz4] at hz1)
  have XR_1 : IBox w1 (w.heap.size) 2 := by
    refine IBox.chg ?_ hg1 (by show ¬ _ = _; omega)
    exact qa3
  obtain ⟨zR0_1, qR0_1⟩ := XR_1.2.1 0 (by omega)
  obtain ⟨zR1_1, qR1_1⟩ := XR_1.2.1 1 (by omega)
  have fR_1 := XR_1.2.2; have lR_1 := XR_1.1
  by_cases hs1_0 : r1 = 0
  · subst hs1_0
    go_wp2_with fail
    refine (anyCurveC (K := K + 2) ?_ ?_).mono ?_
    · exact qa4
    · omega
    rintro e2 w2 ⟨x2, y2, rfl, hc2, hg2⟩
    have hz2 := hg2.size
    (try simp only [wz1, wz2, wz3, wz4] at hz2)
    have XR_2 : IBox w2 (w.heap.size) 2 := by
      refine IBox.chg ?_ hg2 (by show ¬ _ = _; omega)
      exact qa3
    clear qR0_1 qR1_1 fR_1 XR_1
    clear hc1
    obtain ⟨zR0_2, qR0_2⟩ := XR_2.2.1 0 (by omega)
    obtain ⟨zR1_2, qR1_2⟩ := XR_2.2.1 1 (by omega)
    have fR_2 := XR_2.2.2; have lR_2 := XR_2.1
    go_wp2_with fail
    refine name_worldB (fun WF hWF => ?_)
    have XF : IBox WF (w.heap.size) 2 := by subst hWF; exact qa3
    have hCF : CurAt WF b (K + 2 + 30) := by subst hWF; exact qa4
    have hGF : ChgS (fun k => k = b) w WF := by subst hWF; exact qa7
    clear hWF
    obtain ⟨x0, k0⟩ := XF.2.1 0 (by omega)
    obtain ⟨x1, k1⟩ := XF.2.1 1 (by omega)
    have kl := XF.1
    refine bodyPost_ret (v := .agg #[.int .i64 x0, .int .i64 x1]) (by simp [results, Tryz.results66, go_sem, kl, k0, k1]) rfl ?_
    exact ⟨x0, x1, rfl, hCF.mono (by omega), hGF⟩
  · have hq1_0 : (r1 == 0) = false := by simpa using hs1_0
    by_cases hs1_1 : r1 = 1
    · subst hs1_1
      go_wp2_with fail
      refine name_worldC (fun V2 hV2 => ?_)
      have hcV : CurAt V2 b (K + 2) := by subst hV2; exact qa4
      have hgV : ChgS (fun k => k = b) w V2 := by subst hV2; exact qa7
      have YR : IBox V2 (w.heap.size) 2 := by subst hV2; exact qa3
      have YL : IBox V2 (w1.heap.size) 26 := by subst hV2; exact qa3
      clear hV2
      refine (pickC (K := K + 2) hcV (by omega) (by omega) (by omega)).mono ?_
      rintro e2 w2 ⟨r2, rfl, ra2, rb2, hc2, hg2⟩
      have hz2 := hg2.size
      have XR_2 : IBox w2 (w.heap.size) 2 := IBox.chg YR hg2 (by show ¬ _ = _; omega)
      have XL : IBox w2 (w1.heap.size) 26 := IBox.chg YL hg2 (by show ¬ _ = _; omega)
      clear qR0_1 qR1_1 fR_1 XR_1
      clear hc1
      have hgw : ChgS (fun k => k = b) w w2 := hgV.trans hg2
      clear hg2
      have hg2 := hgw; clear hgw
      obtain ⟨zR0_2, qR0_2⟩ := XR_2.2.1 0 (by omega)
      obtain ⟨zR1_2, qR1_2⟩ := XR_2.2.1 1 (by omega)
      have fR_2 := XR_2.2.2; have lR_2 := XR_2.1
      clear hcV hgV YL YR
      obtain ⟨n, rfl⟩ : ∃ n : Nat, r2 = n := ⟨r2.toNat, by omega⟩
      have hn : n < 13 := by omega
      have hn0 : (0 : Int) ≤ (n : Int) := by omega
      have hn6 : (n : Int) < 13 := by omega
      obtain ⟨za, qa⟩ := XL.2.1 (n * 2) (by omega); obtain ⟨zb, qb⟩ := XL.2.1 (n * 2 + 1) (by omega); have lL := XL.1; clear XL
      go_wp2_with fail
      refine name_worldC (fun V3 hV3 => ?_)
      have hcV3 : CurAt V3 b (K + 2 + 2) := by subst hV3; exact qa4
      have hgV3 : ChgS (fun k => k = b) w V3 := by subst hV3; exact qa7
      have YR_3 : IBox V3 (w.heap.size) 2 := by subst hV3; exact qa3
      have YE_3 : IBox V3 (w2.heap.size) 2 := by subst hV3; exact qa3
      clear hV3
      refine ((ecGood_any _ _ _).mono (fun _ _ h => GB.of h)).mono ?_
      rintro e3 w3 ⟨r3, rfl, hb3⟩
      have hg3 := hgV3.trans (ChgS.of_below (S := fun k => k = b) hb3)
      have hc3 := hcV3.below hb3
      have hz3 := hg3.size
      (try simp only [wz1, wz2, wz3, wz4] at hz3)
      have XR_3 := YR_3.below hb3
      have XE_3 := YE_3.below hb3
      clear hcV3 YR_3 YE_3
      clear qR0_2 qR1_2 fR_2 XR_2
      clear hc2
      obtain ⟨zR0_3, qR0_3⟩ := XR_3.2.1 0 (by omega)
      obtain ⟨zR1_3, qR1_3⟩ := XR_3.2.1 1 (by omega)
      have fR_3 := XR_3.2.2; have lR_3 := XR_3.1
      obtain ⟨zE0_3, qE0_3⟩ := XE_3.2.1 0 (by omega)
      obtain ⟨zE1_3, qE1_3⟩ := XE_3.2.1 1 (by omega)
      have fE_3 := XE_3.2.2; have lE_3 := XE_3.1
      cases r3
      · skip
        go_wp2_with fail
        refine name_worldB (fun WF hWF => ?_)
        have XF : IBox WF (w.heap.size) 2 := by subst hWF; exact qa3
        have hCF : CurAt WF b (K + 2 + 2) := by subst hWF; exact qa4
        have hGF : ChgS (fun k => k = b) w WF := by subst hWF; exact qa7
        clear hWF
        obtain ⟨x0, k0⟩ := XF.2.1 0 (by omega)
        obtain ⟨x1, k1⟩ := XF.2.1 1 (by omega)
        have kl := XF.1
        refine bodyPost_ret (v := .agg #[.int .i64 x0, .int .i64 x1]) (by simp [results, Tryz.results66, go_sem, kl, k0, k1]) rfl ?_
        exact ⟨x0, x1, rfl, hCF.mono (by omega), hGF⟩
      · skip
        go_wp2_with fail
        refine name_worldB (fun WF hWF => ?_)
        have XF : IBox WF (w.heap.size) 2 := by subst hWF; exact qa3
        have hCF : CurAt WF b (K + 2 + 2) := by subst hWF; exact qa4
        have hGF : ChgS (fun k => k = b) w WF := by subst hWF; exact qa7
        clear hWF
        obtain ⟨x0, k0⟩ := XF.2.1 0 (by omega)
        obtain ⟨x1, k1⟩ := XF.2.1 1 (by omega)
        have kl := XF.1
        refine bodyPost_ret (v := .agg #[.int .i64 x0, .int .i64 x1]) (by simp [results, Tryz.results66, go_sem, kl, k0, k1]) rfl ?_
        exact ⟨x0, x1, rfl, hCF.mono (by omega), hGF⟩
    · have hq1_1 : (r1 == 1) = false := by simpa using hs1_1
      by_cases hs1_2 : r1 = 2
      · subst hs1_2
        go_wp2_with fail
        refine name_worldC (fun V2 hV2 => ?_)
        have hcV : CurAt V2 b (K + 2) := by subst hV2; exact qa4
        have hgV : ChgS (fun k => k = b) w V2 := by subst hV2; exact qa7
        have YR : IBox V2 (w.heap.size) 2 := by subst hV2; exact qa3
        have YL : IBox V2 (w1.heap.size) 26 := by subst hV2; exact qa3
        clear hV2
        refine (pickC (K := K + 2) hcV (by omega) (by omega) (by omega)).mono ?_
        rintro e2 w2 ⟨r2, rfl, ra2, rb2, hc2, hg2⟩
        have hz2 := hg2.size
        have XR_2 : IBox w2 (w.heap.size) 2 := IBox.chg YR hg2 (by show ¬ _ = _; omega)
        have XL : IBox w2 (w1.heap.size) 26 := IBox.chg YL hg2 (by show ¬ _ = _; omega)
        clear qR0_1 qR1_1 fR_1 XR_1
        clear hc1
        have hgw : ChgS (fun k => k = b) w w2 := hgV.trans hg2
        clear hg2
        have hg2 := hgw; clear hgw
        obtain ⟨zR0_2, qR0_2⟩ := XR_2.2.1 0 (by omega)
        obtain ⟨zR1_2, qR1_2⟩ := XR_2.2.1 1 (by omega)
        have fR_2 := XR_2.2.2; have lR_2 := XR_2.1
        clear hcV hgV YL YR
        obtain ⟨n, rfl⟩ : ∃ n : Nat, r2 = n := ⟨r2.toNat, by omega⟩
        have hn : n < 13 := by omega
        have hn0 : (0 : Int) ≤ (n : Int) := by omega
        have hn6 : (n : Int) < 13 := by omega
        obtain ⟨za, qa⟩ := XL.2.1 (n * 2) (by omega); obtain ⟨zb, qb⟩ := XL.2.1 (n * 2 + 1) (by omega); have lL := XL.1; clear XL
        go_wp2_with fail
        refine name_worldC (fun V3 hV3 => ?_)
        have hcV3 : CurAt V3 b (K + 2 + 2) := by subst hV3; exact qa4
        have hgV3 : ChgS (fun k => k = b) w V3 := by subst hV3; exact qa7
        have YR_3 : IBox V3 (w.heap.size) 2 := by subst hV3; exact qa3
        have YE_3 : IBox V3 (w2.heap.size) 2 := by subst hV3; exact qa3
        clear hV3
        refine ((ecGood_any _ _ _).mono (fun _ _ h => GB.of h)).mono ?_
        rintro e3 w3 ⟨r3, rfl, hb3⟩
        have hg3 := hgV3.trans (ChgS.of_below (S := fun k => k = b) hb3)
        have hc3 := hcV3.below hb3
        have hz3 := hg3.size
        (try simp only [wz1, wz2, wz3, wz4] at hz3)
        have XR_3 := YR_3.below hb3
        have XE_3 := YE_3.below hb3
        clear hcV3 YR_3 YE_3
        clear qR0_2 qR1_2 fR_2 XR_2
        clear hc2
        obtain ⟨zR0_3, qR0_3⟩ := XR_3.2.1 0 (by omega)
        obtain ⟨zR1_3, qR1_3⟩ := XR_3.2.1 1 (by omega)
        have fR_3 := XR_3.2.2; have lR_3 := XR_3.1
        obtain ⟨zE0_3, qE0_3⟩ := XE_3.2.1 0 (by omega)
        obtain ⟨zE1_3, qE1_3⟩ := XE_3.2.1 1 (by omega)
        have fE_3 := XE_3.2.2; have lE_3 := XE_3.1
        cases r3
        · skip
          go_wp2_with fail
          refine name_worldB (fun WF hWF => ?_)
          have XF : IBox WF (w.heap.size) 2 := by subst hWF; exact qa3
          have hCF : CurAt WF b (K + 2 + 2) := by subst hWF; exact qa4
          have hGF : ChgS (fun k => k = b) w WF := by subst hWF; exact qa7
          clear hWF
          obtain ⟨x0, k0⟩ := XF.2.1 0 (by omega)
          obtain ⟨x1, k1⟩ := XF.2.1 1 (by omega)
          have kl := XF.1
          refine bodyPost_ret (v := .agg #[.int .i64 x0, .int .i64 x1]) (by simp [results, Tryz.results66, go_sem, kl, k0, k1]) rfl ?_
          exact ⟨x0, x1, rfl, hCF.mono (by omega), hGF⟩
        · skip
          go_wp2_with fail
          refine name_worldB (fun WF hWF => ?_)
          have XF : IBox WF (w.heap.size) 2 := by subst hWF; exact qa3
          have hCF : CurAt WF b (K + 2 + 2) := by subst hWF; exact qa4
          have hGF : ChgS (fun k => k = b) w WF := by subst hWF; exact qa7
          clear hWF
          obtain ⟨x0, k0⟩ := XF.2.1 0 (by omega)
          obtain ⟨x1, k1⟩ := XF.2.1 1 (by omega)
          have kl := XF.1
          refine bodyPost_ret (v := .agg #[.int .i64 x0, .int .i64 x1]) (by simp [results, Tryz.results66, go_sem, kl, k0, k1]) rfl ?_
          exact ⟨x0, x1, rfl, hCF.mono (by omega), hGF⟩
      · have hq1_2 : (r1 == 2) = false := by simpa using hs1_2
        by_cases hs1_3 : r1 = 3
        · subst hs1_3
          go_wp2_with fail
          refine (pickC (K := K + 2) ?_ ?_ ?_ ?_).mono ?_
          · exact qa4
          · omega
          · omega
          · omega
          rintro e2 w2 ⟨r2, rfl, ra2, rb2, hc2, hg2⟩
          have hz2 := hg2.size
          (try simp only [wz1, wz2, wz3, wz4] at hz2)
          have XR_2 : IBox w2 (w.heap.size) 2 := by
            refine IBox.chg ?_ hg2 (by show ¬ _ = _; omega)
            exact qa3
          clear qR0_1 qR1_1 fR_1 XR_1
          clear hc1
          obtain ⟨zR0_2, qR0_2⟩ := XR_2.2.1 0 (by omega)
          obtain ⟨zR1_2, qR1_2⟩ := XR_2.2.1 1 (by omega)
          have fR_2 := XR_2.2.2; have lR_2 := XR_2.1
          go_wp2_with fail
          refine (pickC (K := K + 2 + 2) ?_ ?_ ?_ ?_).mono ?_
          · exact qa4
          · omega
          · omega
          · omega
          rintro e3 w3 ⟨r3, rfl, ra3, rb3, hc3, hg3⟩
          have hz3 := hg3.size
          (try simp only [wz1, wz2, wz3, wz4] at hz3)
          have XR_3 : IBox w3 (w.heap.size) 2 := by
            refine IBox.chg ?_ hg3 (by show ¬ _ = _; omega)
            exact qa3
          clear qR0_2 qR1_2 fR_2 XR_2
          clear hc2
          obtain ⟨zR0_3, qR0_3⟩ := XR_3.2.1 0 (by omega)
          obtain ⟨zR1_3, qR1_3⟩ := XR_3.2.1 1 (by omega)
          have fR_3 := XR_3.2.2; have lR_3 := XR_3.1
          go_wp2_with fail
          refine name_worldC (fun V4 hV4 => ?_)
          have hcV4 : CurAt V4 b (K + 2 + 2 + 2) := by subst hV4; exact qa4
          have hgV4 : ChgS (fun k => k = b) w V4 := by subst hV4; exact qa7
          have YR_4 : IBox V4 (w.heap.size) 2 := by subst hV4; exact qa3
          have YE_4 : IBox V4 (w3.heap.size) 2 := by subst hV4; exact qa3
          clear hV4
          refine ((ecGood_any _ _ _).mono (fun _ _ h => GB.of h)).mono ?_
          rintro e4 w4 ⟨r4, rfl, hb4⟩
          have hg4 := hgV4.trans (ChgS.of_below (S := fun k => k = b) hb4)
          have hc4 := hcV4.below hb4
          have hz4 := hg4.size
          (try simp only [wz1, wz2, wz3, wz4] at hz4)
          have XR_4 := YR_4.below hb4
          have XE_4 := YE_4.below hb4
          clear hcV4 YR_4 YE_4
          clear qR0_3 qR1_3 fR_3 XR_3
          clear hc3
          obtain ⟨zR0_4, qR0_4⟩ := XR_4.2.1 0 (by omega)
          obtain ⟨zR1_4, qR1_4⟩ := XR_4.2.1 1 (by omega)
          have fR_4 := XR_4.2.2; have lR_4 := XR_4.1
          obtain ⟨zE0_4, qE0_4⟩ := XE_4.2.1 0 (by omega)
          obtain ⟨zE1_4, qE1_4⟩ := XE_4.2.1 1 (by omega)
          have fE_4 := XE_4.2.2; have lE_4 := XE_4.1
          cases r4
          · skip
            go_wp2_with fail
            refine (wealthyC (K := K + 2 + 2 + 2) ?_ ?_).mono ?_
            · exact qa4
            · omega
            rintro e5 w5 ⟨x5, y5, rfl, hc5, hg5⟩
            have hz5 := hg5.size
            (try simp only [wz1, wz2, wz3, wz4] at hz5)
            have XR_5 : IBox w5 (w.heap.size) 2 := by
              refine IBox.chg ?_ hg5 (by show ¬ _ = _; omega)
              exact qa3
            have XE_5 : IBox w5 (w3.heap.size) 2 := by
              refine IBox.chg ?_ hg5 (by show ¬ _ = _; omega)
              exact qa3
            clear qR0_4 qR1_4 fR_4 XR_4 qE0_4 qE1_4 fE_4 XE_4
            clear hc4
            obtain ⟨zR0_5, qR0_5⟩ := XR_5.2.1 0 (by omega)
            obtain ⟨zR1_5, qR1_5⟩ := XR_5.2.1 1 (by omega)
            have fR_5 := XR_5.2.2; have lR_5 := XR_5.1
            obtain ⟨zE0_5, qE0_5⟩ := XE_5.2.1 0 (by omega)
            obtain ⟨zE1_5, qE1_5⟩ := XE_5.2.1 1 (by omega)
            have fE_5 := XE_5.2.2; have lE_5 := XE_5.1
            go_wp2_with fail
            refine name_worldB (fun WF hWF => ?_)
            have XF : IBox WF (w.heap.size) 2 := by subst hWF; exact qa3
            have hCF : CurAt WF b (K + 2 + 2 + 2 + 40) := by subst hWF; exact qa4
            have hGF : ChgS (fun k => k = b) w WF := by subst hWF; exact qa7
            clear hWF
            obtain ⟨x0, k0⟩ := XF.2.1 0 (by omega)
            obtain ⟨x1, k1⟩ := XF.2.1 1 (by omega)
            have kl := XF.1
            refine bodyPost_ret (v := .agg #[.int .i64 x0, .int .i64 x1]) (by simp [results, Tryz.results66, go_sem, kl, k0, k1]) rfl ?_
            exact ⟨x0, x1, rfl, hCF.mono (by omega), hGF⟩
          · skip
            go_wp2_with fail
            refine name_worldB (fun WF hWF => ?_)
            have XF : IBox WF (w.heap.size) 2 := by subst hWF; exact qa3
            have hCF : CurAt WF b (K + 2 + 2 + 2) := by subst hWF; exact qa4
            have hGF : ChgS (fun k => k = b) w WF := by subst hWF; exact qa7
            clear hWF
            obtain ⟨x0, k0⟩ := XF.2.1 0 (by omega)
            obtain ⟨x1, k1⟩ := XF.2.1 1 (by omega)
            have kl := XF.1
            refine bodyPost_ret (v := .agg #[.int .i64 x0, .int .i64 x1]) (by simp [results, Tryz.results66, go_sem, kl, k0, k1]) rfl ?_
            exact ⟨x0, x1, rfl, hCF.mono (by omega), hGF⟩
        · have hq1_3 : (r1 == 3) = false := by simpa using hs1_3
          go_wp2_with fail
          refine (wealthyC (K := K + 2) ?_ ?_).mono ?_
          · exact qa4
          · omega
          rintro e2 w2 ⟨x2, y2, rfl, hc2, hg2⟩
          have hz2 := hg2.size
          (try simp only [wz1, wz2, wz3, wz4] at hz2)
          have XR_2 : IBox w2 (w.heap.size) 2 := by
            refine IBox.chg ?_ hg2 (by show ¬ _ = _; omega)
            exact qa3
          clear qR0_1 qR1_1 fR_1 XR_1
          clear hc1
          obtain ⟨zR0_2, qR0_2⟩ := XR_2.2.1 0 (by omega)
          obtain ⟨zR1_2, qR1_2⟩ := XR_2.2.1 1 (by omega)
          have fR_2 := XR_2.2.2; have lR_2 := XR_2.1
          go_wp2_with fail
          refine name_worldB (fun WF hWF => ?_)
          have XF : IBox WF (w.heap.size) 2 := by subst hWF; exact qa3
          have hCF : CurAt WF b (K + 2 + 40) := by subst hWF; exact qa4
          have hGF : ChgS (fun k => k = b) w WF := by subst hWF; exact qa7
          clear hWF
          obtain ⟨x0, k0⟩ := XF.2.1 0 (by omega)
          obtain ⟨x1, k1⟩ := XF.2.1 1 (by omega)
          have kl := XF.1
          refine bodyPost_ret (v := .agg #[.int .i64 x0, .int .i64 x1]) (by simp [results, Tryz.results66, go_sem, kl, k0, k1]) rfl ?_
          exact ⟨x0, x1, rfl, hCF.mono (by omega), hGF⟩
set_option maxRecDepth 100000 in
set_option maxHeartbeats 4000000 in
theorem DrawTorsionCandidatesC {a : Option Addr} {l c : Nat} {w : World} (h : Byts w w.heap.size (.slice a l c)) : Calls Tryz.prog 41 #[.slice a l c] w (GDC w) := by
  unfold GDC
  go_enter Tryz.func41, Tryz.ntmps41
  go_wp2_with fail
  refine name_worldC (fun W1 hW1 => ?_)
  have hB1 : Below w.heap.size w W1 := by subst hW1; exact gr
  have hC1 : CurAt W1 (w.heap.size + 1) 0 := by
    refine CurAt.first (v := .slice a l c) ?_ (by refine Byts.mono (h.below hB1 (Nat.le_refl _)) (by omega))
    subst hW1; exact box_three (by first | omega | (simp; done) | (simp; omega)) (by simp [go_sem]) (by simp [go_sem]) (by simp [go_sem]) (fun o => by simp [go_sem])
  have XR_0 : IBox W1 (w.heap.size) 2 := by subst hW1; exact qa3
  have hz0 := hB1.size; have hcl := hC1.lt
  clear hW1
  obtain ⟨zR0_0, qR0_0⟩ := XR_0.2.1 0 (by omega)
  obtain ⟨zR1_0, qR1_0⟩ := XR_0.2.1 1 (by omega)
  have fR_0 := XR_0.2.2; have lR_0 := XR_0.1
  go_wp2_with fail
  refine (withTorsionC (K := 0) ?_ ?_).mono ?_
  · exact qa4
  · omega
  rintro e1 w1 ⟨x1, y1, rfl, hc1, hg1⟩
  have hz1 := hg1.size
  (try simp only [wz1, wz2, wz3, wz4] at hz1)
  have XR_1 : IBox w1 (w.heap.size) 2 := by
    refine IBox.chg ?_ hg1 (by show ¬ _ = _; omega)
    exact qa3
  clear qR0_0 qR1_0 fR_0 XR_0
  obtain ⟨zR0_1, qR0_1⟩ := XR_1.2.1 0 (by omega)
  obtain ⟨zR1_1, qR1_1⟩ := XR_1.2.1 1 (by omega)
  have fR_1 := XR_1.2.2; have lR_1 := XR_1.1
  go_wp2_with fail
  refine name_worldB (fun WF hWF => ?_)
  have XF : IBox WF (w.heap.size) 2 := by subst hWF; exact qa3
  have hGF : Below w.heap.size w WF := by subst hWF; exact qa8
  clear hWF
  obtain ⟨x0, k0⟩ := XF.2.1 0 (by omega)
  obtain ⟨x1, k1⟩ := XF.2.1 1 (by omega)
  have kl := XF.1
  refine bodyPost_ret (v := .agg #[.int .i64 x0, .int .i64 x1]) (by simp [results, Tryz.results41, go_sem, kl, k0, k1]) rfl ?_
  exact ⟨x0, x1, rfl, hGF⟩
set_option maxRecDepth 100000 in
set_option maxHeartbeats 4000000 in
theorem DrawTorsionPointsC {a : Option Addr} {l c : Nat} {w : World} (h : Byts w w.heap.size (.slice a l c)) : Calls Tryz.prog 6 #[.slice a l c] w (GDC w) := by
  unfold GDC
  go_enter Tryz.func6, Tryz.ntmps6
  go_wp2_with fail
  refine name_worldC (fun W1 hW1 => ?_)
  have hB1 : Below w.heap.size w W1 := by subst hW1; exact gr
  have hz0 : W1.heap.size = w.heap.size + 1 := by subst hW1; simp
  have XR_0 : IBox W1 (w.heap.size) 2 := by subst hW1; exact qa3
  clear hW1
  refine (DrawTorsionCandidatesC (Byts.mono (h.below hB1 (Nat.le_refl _)) (by omega))).mono ?_
  rintro e1 w1 ⟨x1, y1, rfl, hb1⟩
  have XR_1 := XR_0.below hb1; have hB := bthen2 hb1 hB1; have hz1 := hb1.size; clear XR_0 hb1 hB1
  obtain ⟨zR0_1, qR0_1⟩ := XR_1.2.1 0 (by omega)
  obtain ⟨zR1_1, qR1_1⟩ := XR_1.2.1 1 (by omega)
  have fR_1 := XR_1.2.2; have lR_1 := XR_1.1
  go_wp2_with fail
  refine name_worldB (fun WF hWF => ?_)
  have XF : IBox WF (w.heap.size) 2 := by subst hWF; exact qa3
  have hGF : Below w.heap.size w WF := by subst hWF; exact qa8
  clear hWF
  obtain ⟨x0, k0⟩ := XF.2.1 0 (by omega)
  obtain ⟨x1, k1⟩ := XF.2.1 1 (by omega)
  have kl := XF.1
  refine bodyPost_ret (v := .agg #[.int .i64 x0, .int .i64 x1]) (by simp [results, Tryz.results6, go_sem, kl, k0, k1]) rfl ?_
  exact ⟨x0, x1, rfl, hGF⟩
set_option maxRecDepth 100000 in
set_option maxHeartbeats 4000000 in
theorem DrawPointsOfOrderC {a : Option Addr} {l c : Nat} {w : World} (h : Byts w w.heap.size (.slice a l c)) : Calls Tryz.prog 20 #[.slice a l c] w (GDCI w) := by
  unfold GDCI
  go_enter Tryz.func20, Tryz.ntmps20
  go_wp2_with fail
  refine name_worldC (fun W1 hW1 => ?_)
  have hB1 : Below w.heap.size w W1 := by subst hW1; exact gr
  have hC1 : CurAt W1 (w.heap.size + 1) 0 := by
    refine CurAt.first (v := .slice a l c) ?_ (by refine Byts.mono (h.below hB1 (Nat.le_refl _)) (by omega))
    subst hW1; exact box_three (by first | omega | (simp; done) | (simp; omega)) (by simp [go_sem]) (by simp [go_sem]) (by simp [go_sem]) (fun o => by simp [go_sem])
  have XR_0 : IBox W1 (w.heap.size) 2 := by subst hW1; exact qa3
  have hz0 := hB1.size; have hcl := hC1.lt
  clear hW1
  obtain ⟨zR0_0, qR0_0⟩ := XR_0.2.1 0 (by omega)
  obtain ⟨zR1_0, qR1_0⟩ := XR_0.2.1 1 (by omega)
  have fR_0 := XR_0.2.2; have lR_0 := XR_0.1
  go_wp2_with fail
  refine (withTorsionC (K := 0) ?_ ?_).mono ?_
  · exact qa4
  · omega
  rintro e1 w1 ⟨x1, y1, rfl, hc1, hg1⟩
  have hz1 := hg1.size
  (try simp only [wz1, wz2, wz3, wz4] at hz1)
  have XR_1 : IBox w1 (w.heap.size) 2 := by
    refine IBox.chg ?_ hg1 (by show ¬ _ = _; omega)
    exact qa3
  clear qR0_0 qR1_0 fR_0 XR_0
  obtain ⟨zR0_1, qR0_1⟩ := XR_1.2.1 0 (by omega)
  obtain ⟨zR1_1, qR1_1⟩ := XR_1.2.1 1 (by omega)
  have fR_1 := XR_1.2.2; have lR_1 := XR_1.1
  go_wp2_with fail
  refine (amongC (K := 0 + 60) ?_ ?_ ?_ ?_ ?_ ?_ ?_).mono ?_
  · exact qa4
  · omega
  · (first | rfl | (simp; done))
  · rfl
  · (simp; done)
  · (simp; done)
  · rfl
  rintro e2 w2 ⟨r2, rm2, rfl, hc2, hg2⟩
  clear rm2
  have hz2 := hg2.size
  (try simp only [wz1, wz2, wz3, wz4] at hz2)
  have XR_2 : IBox w2 (w.heap.size) 2 := by
    refine IBox.chg ?_ hg2 (by show ¬ _ = _; omega)
    exact qa3
  clear qR0_1 qR1_1 fR_1 XR_1
  clear hc1
  obtain ⟨zR0_2, qR0_2⟩ := XR_2.2.1 0 (by omega)
  obtain ⟨zR1_2, qR1_2⟩ := XR_2.2.1 1 (by omega)
  have fR_2 := XR_2.2.2; have lR_2 := XR_2.1
  go_wp2_with fail
  refine (amongC (K := 0 + 60 + 2) ?_ ?_ ?_ ?_ ?_ ?_ ?_).mono ?_
  · exact qa4
  · omega
  · (first | rfl | (simp; done))
  · rfl
  · (simp; done)
  · (simp; done)
  · rfl
  rintro e3 w3 ⟨r3, rm3, rfl, hc3, hg3⟩
  clear rm3
  have hz3 := hg3.size
  (try simp only [wz1, wz2, wz3, wz4] at hz3)
  have XR_3 : IBox w3 (w.heap.size) 2 := by
    refine IBox.chg ?_ hg3 (by show ¬ _ = _; omega)
    exact qa3
  clear qR0_2 qR1_2 fR_2 XR_2
  clear hc2
  obtain ⟨zR0_3, qR0_3⟩ := XR_3.2.1 0 (by omega)
  obtain ⟨zR1_3, qR1_3⟩ := XR_3.2.1 1 (by omega)
  have fR_3 := XR_3.2.2; have lR_3 := XR_3.1
  go_wp2_with fail
  refine name_worldB (fun WF hWF => ?_)
  have XF : IBox WF (w.heap.size) 2 := by subst hWF; exact qa3
  have hGF : Below w.heap.size w WF := by subst hWF; exact qa8
  clear hWF
  obtain ⟨x0, k0⟩ := XF.2.1 0 (by omega)
  obtain ⟨x1, k1⟩ := XF.2.1 1 (by omega)
  have kl := XF.1
  refine bodyPost_ret (v := .tuple #[.agg #[.int .i64 x0, .int .i64 x1], .int .i64 r3]) (by simp [results, Tryz.results20, go_sem, kl, k0, k1]) rfl ?_
  exact ⟨x0, x1, r3, rfl, hGF⟩
end Go.Proofs.YtjgdajeoeagggaaGreat
