import Derived.Test.YtjgdajeoeagggaaGreatZDrT
set_option linter.unusedSimpArgs false
set_option linter.unusedVariables false
namespace Go.Proofs.YtjgdajeoeagggaaGreat
open Go.RowKit
/-! ### drawn points of a curve, drawn lists -/
theorem OwnP.chgS {S : Nat → Prop} {w w' : World} {B : Nat} {s : Value} {ps : List P3} (h : OwnP w B s ps) (hc : ChgS S w w') (hn : ∀ k, B ≤ k → ¬ S k) : OwnP w' B s ps := by
  obtain ⟨h2, h3⟩ := h
  refine ⟨h2, ?_⟩
  rcases h3 with h3 | ⟨g, cap, cur, hv, hg, hh, r⟩
  · exact .inl h3
  · have hlt : g < w.heap.size := by
      rcases Nat.lt_or_ge g w.heap.size with q | q
      · exact q
      · rw [Array.getElem?_eq_none q] at hh; cases hh
    exact .inr ⟨g, cap, cur, hv, hg, (hc.block g hlt (hn g hg)).trans hh, r⟩
theorem OwnP.chgP {b : Nat} {w w' : World} {B : Nat} {s : Value} {ps : List P3} (h : OwnP w B s ps) (hc : ChgS (fun k => k = b) w w') (hb : b < B) : OwnP w' B s ps := h.chgS hc (fun k hk e => by omega)
theorem OwnP.at0 {w : World} {B : Nat} {a : Option Addr} {l c : Nat} {ps : List P3} (h : OwnP w B (.slice a l c) ps) {n : Nat} (hn : n < ps.length) : l = ps.length ∧ ∃ g, a = some ⟨g, 0, none⟩ ∧ B ≤ g ∧ g < w.heap.size ∧ ∃ x y e, ps[n]? = some (x, y, e) ∧ w.cell? ⟨g, n * 3, none⟩ = some (.int .i64 x) ∧ w.cell? ⟨g, n * 3 + 1, none⟩ = some (.int .i64 y) ∧ w.cell? ⟨g, n * 3 + 2, none⟩ = some (.int .i64 e) := by
  have hp := h.pts
  obtain ⟨a', c', hv, hm, hc⟩ := hp
  obtain ⟨rfl, rfl, rfl⟩ := by simpa using hv
  obtain ⟨x, y, e, he⟩ : ∃ x y e, ps[n]? = some (x, y, e) := ⟨_, _, _, List.getElem?_eq_getElem hn⟩
  obtain ⟨b, off, ha, hb, c0, c1, c2⟩ := hc n _ he
  rcases h.2 with ⟨hv2, hn2⟩ | ⟨g, cap, cur, hv2, hg, hh, -⟩
  · rw [hn2] at hn; omega
  · subst ha
    have e1 : b = g ∧ off = 0 := by simp at hv2; exact ⟨hv2.1.1, hv2.1.2⟩
    obtain ⟨rfl, rfl⟩ := e1
    rw [Nat.zero_add] at c0 c1 c2
    exact ⟨rfl, b, rfl, hg, hb, x, y, e, he, c0, c1, c2⟩
theorem ptsX_PV {a b x : Int} (hC : isC a b = true) (h1 : -100 ≤ x) (h2 : x ≤ 100) : ∀ p ∈ ptsX x 1 (cVal a b x 1), EC.PV a b p := by
  obtain ⟨hA, hB⟩ := isC_rng hC
  have hcv := cVal_in (a := a) (b := b) (x := x) (e := 1) hA hB ⟨by omega, by omega⟩ ⟨by omega, by omega⟩
  intro p hp
  unfold ptsX at hp
  split at hp
  · rename_i hs
    have hr := sq_rt hs
    have hg : Int.gcd x 1 = 1 := Int.gcd_one
    split at hp
    · rename_i h0
      simp only [List.mem_singleton] at hp
      subst hp
      exact .inr ⟨by simp only; omega, by simp only; omega, by simp, by simp, hg, by simp only; rw [← hcv, h0]; rfl⟩
    · simp only [List.mem_cons, List.not_mem_nil, or_false] at hp
      rcases hp with rfl | rfl
      · exact .inr ⟨by simp only; omega, by simp only; omega, by simp, by simp, hg, by simp only; rw [← hcv, ← hr.1]; grind⟩
      · exact .inr ⟨by simp only; omega, by simp only; omega, by simp, by simp, hg, by simp only; rw [← hcv]; exact hr.1⟩
  · simp at hp
theorem cVal_lim {a b x : Int} (hC : isC a b = true) (h1 : -100 ≤ x) (h2 : x ≤ 100) : -4000000000000 ≤ cVal a b x 1 ∧ cVal a b x 1 ≤ 4000000000000 := by
  obtain ⟨hA, hB⟩ := isC_rng hC
  have hcv := cVal_in (a := a) (b := b) (x := x) (e := 1) hA hB ⟨by omega, by omega⟩ ⟨by omega, by omega⟩
  rw [hcv]
  have h3 := cvI_rng hA hB (x := x) (e := 1) ⟨by omega, by omega⟩ ⟨by omega, by omega⟩
  omega
set_option maxRecDepth 100000 in
set_option maxHeartbeats 4000000 in
theorem pointOnC {b K : Nat} {w : World} {A B : Int} (h : CurAt w b K) (hK : K ≤ 100000) : Calls Tryz.prog 84 #[.pointer (some ⟨b, 0, none⟩), .agg #[.int .i64 A, .int .i64 B]] w (GR3 b (K + 20) w) := by
  have hblt := h.lt
  unfold GR3
  have HG := Lib.hid (fun w => ecGood_any A B w)
  go_enter Tryz.func84, Tryz.ntmps84
  go_wp2_with fail
  refine name_worldC (fun V1 hV => ?_)
  have hcV : CurAt V1 (b) (K) := by subst hV; exact qa2
  have hgV : ChgS (fun k => k = b) w V1 := by subst hV; exact qa6
  have hclt1 := hcV.lt
  have YC : Box V1 (w.heap.size) [.int .i64 A, .int .i64 B] := by subst hV; exact box_two (by first | omega | (simp; done) | (simp; omega)) (by simp [go_sem]) (by simp [go_sem]) (fun o => by simp [go_sem])
  have YR : IBox V1 (w.heap.size + 1) 3 := by subst hV; exact qa1
  have hzV : w.heap.size ≤ V1.heap.size := by subst hV; first | exact Nat.le_refl _ | (simp; done) | (simp; omega)
  clear hV
  refine (oneC (K := K) hcV (by omega) (by omega)).mono ?_
  rintro e1 w1 ⟨r1, rfl, hcn, hgn⟩
  have hz1 := hgn.size
  have XC := YC.chg hgn (by show ¬ _ = _; omega)
  have XR := IBox.chg YR hgn (by show ¬ _ = _; omega)
  have hc := hcn; have hg := hgV.trans hgn
  clear hcV hgV YC YR hcn hgn
  have qC0 := XC.2.1 0 _ rfl; have qC1 := XC.2.1 1 _ rfl; have fC := XC.2.2; have lC := XC.1
  obtain ⟨zR0, qR0⟩ := XR.2.1 0 (by omega); obtain ⟨zR1, qR1⟩ := XR.2.1 1 (by omega); obtain ⟨zR2, qR2⟩ := XR.2.1 2 (by omega); have fR := XR.2.2; have lR := XR.1
  cases r1
  case true =>
    go_wp2_with fail
    refine name_worldB (fun WF hWF => ?_)
    have XF : IBox WF (w.heap.size + 1) 3 := by subst hWF; exact qa1
    have hCF : CurAt WF b (K + 2) := by subst hWF; exact qa2
    have hGF : ChgS (fun k => k = b) w WF := by subst hWF; exact qa6
    clear hWF
    obtain ⟨x0, k0⟩ := XF.2.1 0 (by omega)
    obtain ⟨x1, k1⟩ := XF.2.1 1 (by omega)
    obtain ⟨x2, k2⟩ := XF.2.1 2 (by omega)
    have kl := XF.1
    refine bodyPost_ret (v := .agg #[.int .i64 x0, .int .i64 x1, .int .i64 x2]) (by simp [results, Tryz.results84, go_sem, kl, k0, k1, k2]) rfl ?_
    first | exact ⟨x0, x1, x2, rfl, hCF.mono (by omega), hGF⟩ | exact ⟨⟨x0, x1, x2, rfl⟩, hCF.mono (by omega), hGF⟩
  case false =>
    cases hC : isC A B
    case false =>
      rw [hC] at HG; clear hC
      go_wp2_with fail
      refine name_worldC (fun V2 hV => ?_)
      have hcV : CurAt V2 (b) (K + 2) := by subst hV; exact qa2
      have hgV : ChgS (fun k => k = b) w V2 := by subst hV; exact qa6
      have hclt2 := hcV.lt
      have YC : Box V2 (w.heap.size) [.int .i64 A, .int .i64 B] := by subst hV; exact qa9
      have YR : IBox V2 (w.heap.size + 1) 3 := by subst hV; exact qa1
      clear qC0 qC1 qR0 qR1 qR2 fC fR
      have hzV : w1.heap.size ≤ V2.heap.size := by subst hV; first | exact Nat.le_refl _ | (simp; done) | (simp; omega)
      clear hV XC XR hc hg
      refine (HG.out _).mono ?_
      rintro e2 w2 ⟨rfl, hbn⟩
      have hz2 := hbn.size
      have XC := YC.below hbn
      have XR := IBox.below YR hbn
      have hc := hcV.below hbn; have hg := hgV.trans (ChgS.of_below (S := fun k => k = b) hbn)
      clear hcV hgV YC YR hbn
      have qC0 := XC.2.1 0 _ rfl; have qC1 := XC.2.1 1 _ rfl; have fC := XC.2.2; have lC := XC.1
      obtain ⟨zR0, qR0⟩ := XR.2.1 0 (by omega); obtain ⟨zR1, qR1⟩ := XR.2.1 1 (by omega); obtain ⟨zR2, qR2⟩ := XR.2.1 2 (by omega); have fR := XR.2.2; have lR := XR.1
      go_wp2_with fail
      refine name_worldB (fun WF hWF => ?_)
      have XF : IBox WF (w.heap.size + 1) 3 := by subst hWF; exact qa1
      have hCF : CurAt WF b (K + 2) := by subst hWF; exact qa2
      have hGF : ChgS (fun k => k = b) w WF := by subst hWF; exact qa6
      clear hWF
      obtain ⟨x0, k0⟩ := XF.2.1 0 (by omega)
      obtain ⟨x1, k1⟩ := XF.2.1 1 (by omega)
      obtain ⟨x2, k2⟩ := XF.2.1 2 (by omega)
      have kl := XF.1
      refine bodyPost_ret (v := .agg #[.int .i64 x0, .int .i64 x1, .int .i64 x2]) (by simp [results, Tryz.results84, go_sem, kl, k0, k1, k2]) rfl ?_
      first | exact ⟨x0, x1, x2, rfl, hCF.mono (by omega), hGF⟩ | exact ⟨⟨x0, x1, x2, rfl⟩, hCF.mono (by omega), hGF⟩
    case true =>
      rw [hC] at HG
      have HX := Lib.hid (fun x (h1 : -100 ≤ x) (h2 : x ≤ 100) W => ptAtX_any A B x 1 (cVal_lim hC h1 h2).1 (cVal_lim hC h1 h2).2 W)
      have HPT := Lib.hid (fun x (h1 : -100 ≤ x) (h2 : x ≤ 100) y0 y1 y2 (hm : (y0, y1, y2) ∈ ptsX x 1 (cVal A B x 1)) n (h3 : 1 ≤ n) (h4 : n ≤ 4) W => ptTimesQ (n := n) (by omega) (by omega) hC (ptsX_PV hC h1 h2 _ hm) W)
      have HLN := Lib.hid (fun x => ptsX_len x 1 (cVal A B x 1))
      clear hC
      go_wp2_with fail
      refine name_worldC (fun V2 hV => ?_)
      have hcV : CurAt V2 (b) (K + 2) := by subst hV; exact qa2
      have hgV : ChgS (fun k => k = b) w V2 := by subst hV; exact qa6
      have hclt2 := hcV.lt
      have YC : Box V2 (w.heap.size) [.int .i64 A, .int .i64 B] := by subst hV; exact qa9
      have YR : IBox V2 (w.heap.size + 1) 3 := by subst hV; exact qa1
      clear qC0 qC1 qR0 qR1 qR2 fC fR
      have hzV : w1.heap.size ≤ V2.heap.size := by subst hV; first | exact Nat.le_refl _ | (simp; done) | (simp; omega)
      clear hV XC XR hc hg
      refine (HG.out _).mono ?_
      rintro e2 w2 ⟨rfl, hbn⟩
      have hz2 := hbn.size
      have XC := YC.below hbn
      have XR := IBox.below YR hbn
      have hc := hcV.below hbn; have hg := hgV.trans (ChgS.of_below (S := fun k => k = b) hbn)
      clear hcV hgV YC YR hbn
      have qC0 := XC.2.1 0 _ rfl; have qC1 := XC.2.1 1 _ rfl; have fC := XC.2.2; have lC := XC.1
      obtain ⟨zR0, qR0⟩ := XR.2.1 0 (by omega); obtain ⟨zR1, qR1⟩ := XR.2.1 1 (by omega); obtain ⟨zR2, qR2⟩ := XR.2.1 2 (by omega); have fR := XR.2.2; have lR := XR.1
      clear HG
      go_wp2_with fail
      refine name_worldC (fun V3 hV => ?_)
      have hcV : CurAt V3 (b) (K + 2) := by subst hV; exact qa2
      have hgV : ChgS (fun k => k = b) w V3 := by subst hV; exact qa6
      have hclt3 := hcV.lt
      have YC : Box V3 (w.heap.size) [.int .i64 A, .int .i64 B] := by subst hV; exact qa9
      have YR : IBox V3 (w.heap.size + 1) 3 := by subst hV; exact qa1
      clear qC0 qC1 qR0 qR1 qR2 fC fR
      have hzV : w2.heap.size ≤ V3.heap.size := by subst hV; first | exact Nat.le_refl _ | (simp; done) | (simp; omega)
      clear hV XC XR hc hg
      refine (pickC (K := K + 2) hcV (by omega) (by omega) (by omega)).mono ?_
      rintro e3 w3 ⟨r3, rfl, ra3, rb3, hcn, hgn⟩
      have hz3 := hgn.size
      have XC := YC.chg hgn (by show ¬ _ = _; omega)
      have XR := IBox.chg YR hgn (by show ¬ _ = _; omega)
      have hc := hcn; have hg := hgV.trans hgn
      clear hcV hgV YC YR hcn hgn
      have qC0 := XC.2.1 0 _ rfl; have qC1 := XC.2.1 1 _ rfl; have fC := XC.2.2; have lC := XC.1
      obtain ⟨zR0, qR0⟩ := XR.2.1 0 (by omega); obtain ⟨zR1, qR1⟩ := XR.2.1 1 (by omega); obtain ⟨zR2, qR2⟩ := XR.2.1 2 (by omega); have fR := XR.2.2; have lR := XR.1
      go_wp2_with fail
      have kr : r3 - 30 = r3 - 30 := rfl
      obtain ⟨KC, hKC⟩ : ∃ KC : Nat, KC = K + 2 + 2 := ⟨_, rfl⟩
      rw [← hKC] at hc
      go_loopw [6] (fun v6 wr => ∃ k : Nat, k ≤ 60 ∧ v6 = .int .i64 k ∧ CurAt wr b KC ∧ Box wr (w.heap.size) [.int .i64 A, .int .i64 B] ∧ IBox wr (w.heap.size + 1) 3 ∧ ChgS (fun k => k = b) w wr) (fun v6 _ => 60 - (intOf v6).toNat)
      case atStart => exact ⟨0, by omega, rfl, hc, XC, XR, hg⟩
      case round =>
        clear qC0 qC1 qR0 qR1 qR2 fC fR
        clear XC XR hc hg lC lR
        obtain ⟨k, hk, rfl, hc, XC, XR, hg⟩ := hrel
        have hzr := hg.size
        have qC0 := XC.2.1 0 _ rfl; have qC1 := XC.2.1 1 _ rfl; have fC := XC.2.2; have lC := XC.1
        obtain ⟨zR0, qR0⟩ := XR.2.1 0 (by omega); obtain ⟨zR1, qR1⟩ := XR.2.1 1 (by omega); obtain ⟨zR2, qR2⟩ := XR.2.1 2 (by omega); have fR := XR.2.2; have lR := XR.1
        by_cases hlt : k < 60
        case pos =>
          go_wp2_with fail
          refine name_worldC (fun V4 hV => ?_)
          have hcV : CurAt V4 (b) (KC) := by subst hV; exact qa2
          have hgV : ChgS (fun k => k = b) w V4 := by subst hV; exact qa6
          have hclt4 := hcV.lt
          have YC : Box V4 (w.heap.size) [.int .i64 A, .int .i64 B] := by subst hV; exact qa9
          have YR : IBox V4 (w.heap.size + 1) 3 := by subst hV; exact qa1
          clear qC0 qC1 qR0 qR1 qR2 fC fR
          have hzV : wr.heap.size ≤ V4.heap.size := by subst hV; first | exact Nat.le_refl _ | (simp; done) | (simp; omega)
          clear hV XC XR hc hg
          refine (HX.out _ (by omega) (by omega) _).mono ?_
          rintro e4 w4 ⟨a4, l4, c4, rfl, OL, hbn⟩
          have hz4 := hbn.size
          have XC := YC.below hbn
          have XR := IBox.below YR hbn
          have hc := hcV.below hbn; have hg := hgV.trans (ChgS.of_below (S := fun k => k = b) hbn)
          clear hcV hgV YC YR hbn
          have qC0 := XC.2.1 0 _ rfl; have qC1 := XC.2.1 1 _ rfl; have fC := XC.2.2; have lC := XC.1
          obtain ⟨zR0, qR0⟩ := XR.2.1 0 (by omega); obtain ⟨zR1, qR1⟩ := XR.2.1 1 (by omega); obtain ⟨zR2, qR2⟩ := XR.2.1 2 (by omega); have fR := XR.2.2; have lR := XR.1
          obtain ⟨g4, rfl⟩ : ∃ g4, l4 = g4 := ⟨_, rfl⟩
          have hPT := HPT.out (r3 - 30 + k) (by omega) (by omega)
          have hln := HLN.out (r3 - 30 + k)
          have hBV : b < V4.heap.size := hclt4
          obtain ⟨a9, c9, he9⟩ := OL.slice
          obtain ⟨rfl, rfl, rfl⟩ : a4 = a9 ∧ l4 = _ ∧ c4 = c9 := by simpa using he9
          clear he9
          generalize ptsX (r3 - 30 + k) 1 (cVal A B (r3 - 30 + k) 1) = ps at *
          have HP := Lib.hid hPT; clear hPT
          by_cases hps : 0 < ps.length
          case pos =>
            go_wp2_with fail
            refine name_worldC (fun V5 hV => ?_)
            have hcV : CurAt V5 (b) (KC) := by subst hV; exact qa2
            have hgV : ChgS (fun k => k = b) w V5 := by subst hV; exact qa6
            have hclt5 := hcV.lt
            have YC : Box V5 (w.heap.size) [.int .i64 A, .int .i64 B] := by subst hV; exact qa9
            have YR : IBox V5 (w.heap.size + 1) 3 := by subst hV; exact qa1
            have OLV : OwnP V5 (V4.heap.size) (.slice a4 ps.length c4) (ps) := by subst hV; (repeat' (first | (with_reducible first | assumption | refine OwnP.alloc ?_ _)))
            clear qC0 qC1 qR0 qR1 qR2 fC fR
            have hzV : w4.heap.size ≤ V5.heap.size := by subst hV; first | exact Nat.le_refl _ | (simp; done) | (simp; omega)
            clear hV XC XR hc hg OL
            refine (pickC (K := KC) hcV (by omega) (by omega) (by omega)).mono ?_
            rintro e5 w5 ⟨r5, rfl, ra5, rb5, hcn, hgn⟩
            have hz5 := hgn.size
            have XC := YC.chg hgn (by show ¬ _ = _; omega)
            have XR := IBox.chg YR hgn (by show ¬ _ = _; omega)
            have OL := OLV.chgP hgn (by omega)
            have hc := hcn; have hg := hgV.trans hgn
            clear hcV hgV YC YR OLV hcn hgn
            have qC0 := XC.2.1 0 _ rfl; have qC1 := XC.2.1 1 _ rfl; have fC := XC.2.2; have lC := XC.1
            obtain ⟨zR0, qR0⟩ := XR.2.1 0 (by omega); obtain ⟨zR1, qR1⟩ := XR.2.1 1 (by omega); obtain ⟨zR2, qR2⟩ := XR.2.1 2 (by omega); have fR := XR.2.2; have lR := XR.1
            obtain ⟨n, rfl⟩ : ∃ n : Nat, r5 = n := ⟨r5.toNat, by omega⟩
            have hn : n < ps.length := by omega
            have hn0 : (0 : Int) ≤ (n : Int) := by omega
            have hn1 : (n : Int) < (ps.length : Int) := by omega
            obtain ⟨-, g, rfl, hgB, hgl, px, py, pe, hpe, p0, p1, p2⟩ := OL.at0 hn
            have HPT1 := Lib.hid (HP.out px py pe (List.mem_of_getElem? hpe))
            clear HP HX HPT HLN hpe OL
            go_wp2_with fail
            refine name_world (fun W6 hW6 => ?_)
            have hc2 : CurAt W6 b (KC + 2) := by subst hW6; exact qa2
            have hgw : ChgS (fun k => k = b) w W6 := by subst hW6; exact qa6
            have BE : Box W6 (w.heap.size) [.int .i64 A, .int .i64 B] := by subst hW6; exact qa9
            have XR_2 : IBox W6 (w.heap.size + 1) 3 := by subst hW6; exact qa1
            have BP : Box W6 (w5.heap.size) [.int .i64 px, .int .i64 py, .int .i64 pe] := by subst hW6; exact box_three (by first | omega | (simp; done) | (simp; omega)) (by simp [go_sem]) (by simp [go_sem]) (by simp [go_sem]) (fun o => by simp [go_sem])
            clear qC0 qC1 qR0 qR1 qR2 fC fR
            have hz6 : w5.heap.size ≤ W6.heap.size := by subst hW6; first | exact Nat.le_refl _ | (simp; done) | (simp; omega)
            have lE := BE.1; have lP := BP.1
            clear hW6 XC XR hc hg p0 p1 p2
            refine wp_region_x (fun w' => w'.cell? ⟨w.heap.size, 0, none⟩ = some (.int .i64 A) ∧ w'.cell? ⟨w.heap.size, 1, none⟩ = some (.int .i64 B) ∧ w'.cell? ⟨w5.heap.size, 0, none⟩ = some (.int .i64 px) ∧ w'.cell? ⟨w5.heap.size, 1, none⟩ = some (.int .i64 py) ∧ w'.cell? ⟨w5.heap.size, 2, none⟩ = some (.int .i64 pe)) (fun i => decide (i < 12)) (by kernel_rfl) ?_ (fun hHeld => ?_)
            focus ((try dsimp only); (exact sCells qa4 qa4))
            refine wtk (v := ?_) 0 rfl ?_ (by assumption) ?_
            rotate_left
            focus (intro w hSw; (try dsimp only at hSw); go_simp; (try with_reducible rfl))
            (try simp only [Act.put, wz5, wz6, wz7])
            refine wtk (v := ?_) 1 rfl ?_ (by assumption) ?_
            rotate_left
            focus (intro w hSw; (try dsimp only at hSw); go_simp; (try with_reducible rfl))
            (try simp only [Act.put, wz5, wz6, wz7])
            refine wtk (v := ?_) 2 rfl ?_ (by assumption) ?_
            rotate_left
            focus (intro w hSw; (try dsimp only at hSw); go_simp; (try with_reducible rfl))
            (try simp only [Act.put, wz5, wz6, wz7])
            refine wpAnyX_two 3 9 rfl rfl (by kernel_rfl) (fun K hK => ?_) (fun K hK => ?_)
            · go_simp
              (go_at_call 83; refine (pickC (K := KC + 2) qa2 (by omega) (by omega) (by omega)).mono ?_; rintro e7 w7 ⟨r7, rfl, ra7, rb7, hc7, hg7⟩; have kw7 : wrap64 (1 + r7) = 1 + r7 := win (by omega); have kv7 : IntKind.i64.wrap (1 + r7) = 1 + r7 := IntWalk.i64_in _ (by omega); have hz7 := hg7.size; (try simp only [wz1, wz2, wz3, wz4] at hz7); have XR_3 : IBox w7 (w.heap.size + 1) 3 := IBox.chg (by first | exact XR_2 | exact IBox.drew XR_2 | exact IBox.alloc (IBox.drew XR_2) _ | exact IBox.drew (IBox.alloc XR_2 _)) hg7 (by show ¬ _ = _; omega); have BE3 : Box w7 (w.heap.size) _ := Box.chg (by first | exact BE | exact Box.drewR BE | exact Box.alloc (Box.drewR BE) _ | exact Box.drewR (Box.alloc BE _)) hg7 (by show ¬ _ = _; omega); have BP3 : Box w7 (w5.heap.size) _ := Box.chg (by first | exact BP | exact Box.drewR BP | exact Box.alloc (Box.drewR BP) _ | exact Box.drewR (Box.alloc BP _)) hg7 (by show ¬ _ = _; omega); (try (with_reducible have BQ3 := made3_chg hg7)); (try (with_reducible have BQ3 := made3_chgD hg7)); (try (replace BQ3 := BQ3 (by show ¬ _ = _; first | omega | (simp; omega)); (try simp only [World.size_drew] at BQ3))))
              go_wp2_with fail
              clear hHeld
              refine hK.out _ _ ?_ (fun hHeld => ?_)
              focus ((try dsimp only); (exact sCells qa4 qa4))
              clear hK K
              (try simp only [Act.put, wz5, wz6, wz7])
              refine wtk (v := ?_) 4 rfl ?_ (by assumption) ?_
              rotate_left
              focus (intro w hSw; (try dsimp only at hSw); go_simp; (try with_reducible rfl))
              (try simp only [Act.put, wz5, wz6, wz7])
              refine wpAnyX_two 5 9 rfl rfl (by kernel_rfl) (fun K hK => ?_) (fun K hK => ?_)
              · go_simp
                ((try simp only [kv7, kw7]); go_at_call 107; refine (HPT1.out (1 + r7) (by omega) (by omega) _).mono ?_; rintro e8 w8 ⟨q1, q2, q3, qk, rfl, hb8⟩; have hz8 := hb8.size; (try simp only [wz1, wz2, wz3, wz4] at hz8); have XR_4 : IBox w8 (w.heap.size + 1) 3 := IBox.below (by first | exact XR_3 | exact IBox.alloc XR_3 _) hb8; have hc8 : CurAt w8 b (KC + 2 + 2) := CurAt.below (by first | exact hc7 | exact CurAt.alloc hc7 _) hb8; have hg8 := ChgS.of_below (S := fun k => k = b) hb8; have BE4 : Box w8 (w.heap.size) _ := Box.below (by first | exact BE3 | exact Box.alloc BE3 _) hb8; have BP4 : Box w8 (w5.heap.size) _ := Box.below (by first | exact BP3 | exact Box.alloc BP3 _) hb8; (try (with_reducible have BQ4 := made3_below hb8)); (try (have BQ4 := Box.below BQ3 hb8)); (try (have v0 := BQ4.2.1 0 _ rfl; have v1 := BQ4.2.1 1 _ rfl; have v2 := BQ4.2.1 2 _ rfl; have vf := BQ4.2.2; have vl := BQ4.1)); have p0 := BP4.2.1 0 _ rfl; have p1 := BP4.2.1 1 _ rfl; have p2 := BP4.2.1 2 _ rfl; have pf := BP4.2.2; have pl := BP4.1)
                go_wp2_with fail
                clear hHeld
                refine hK.out _ _ ?_ (fun hHeld => ?_)
                focus ((try dsimp only); (exact sCells qa4 qa4))
                clear hK K
                (try simp only [Act.put, wz5, wz6, wz7])
                refine wtk (v := ?_) 6 rfl ?_ (by assumption) ?_
                rotate_left
                focus (intro w hSw; (try dsimp only at hSw); go_simp; (try with_reducible rfl))
                (try simp only [Act.put, wz5, wz6, wz7])
                refine wtk (v := ?_) 7 rfl ?_ (by assumption) ?_
                rotate_left
                focus (intro w hSw; (try dsimp only at hSw); go_simp; (try with_reducible rfl))
                (try simp only [Act.put, wz5, wz6, wz7])
                refine wtk (v := ?_) 8 rfl ?_ (by assumption) ?_
                rotate_left
                focus (intro w hSw; (try dsimp only at hSw); go_simp; (try with_reducible rfl))
                (try simp only [Act.put, wz5, wz6, wz7])
                refine wpAnyX_one 9 rfl (by kernel_rfl) (fun K hK => ?_)
                go_simp
                clear hHeld
                refine hK.out _ _ ?_ (fun hHeld => ?_)
                focus ((try dsimp only); (exact sCells qa4 qa4))
                clear hK K
                (try simp only [Act.put, wz5, wz6, wz7])
                refine wpAnyX_one 10 rfl (by kernel_rfl) (fun K hK => ?_)
                go_simp
                clear hHeld
                refine hK.out _ _ ?_ (fun hHeld => ?_)
                focus ((try dsimp only); (exact sCells qa4 qa4))
                clear hK K
                (try simp only [Act.put, wz5, wz6, wz7])
                refine wtk (v := ?_) 11 rfl ?_ (by assumption) ?_
                rotate_left
                focus (intro w hSw; (try dsimp only at hSw); go_simp; (try with_reducible rfl))
                (try simp only [Act.put, wz5, wz6, wz7])
                refine wpAnyX_done (by kernel_rfl) ?_ _
                refine NoPanic.normal ?_
                (obtain ⟨zR0, qR0⟩ := XR_4.2.1 0 (by omega); obtain ⟨zR1, qR1⟩ := XR_4.2.1 1 (by omega); obtain ⟨zR2, qR2⟩ := XR_4.2.1 2 (by omega); have fR := XR_4.2.2; have lR := XR_4.1; cases qk <;> (go_wp2_with fail; refine name_worldB (fun WF hWF => ?_); have XF : IBox WF (w.heap.size + 1) 3 := (by subst hWF; exact qa1); have hCF : CurAt WF b (KC + 2 + 2) := (by subst hWF; exact qa2); have hGF : ChgS (fun k => k = b) w WF := (by subst hWF; exact qa6); clear hWF; obtain ⟨x0, k0⟩ := XF.2.1 0 (by omega); obtain ⟨x1, k1⟩ := XF.2.1 1 (by omega); obtain ⟨x2, k2⟩ := XF.2.1 2 (by omega); have kl := XF.1; refine bodyPost_ret (v := .agg #[.int .i64 x0, .int .i64 x1, .int .i64 x2]) (by simp [results, Tryz.results84, go_sem, kl, k0, k1, k2]) rfl ?_; exact ⟨x0, x1, x2, rfl, hCF.mono (by omega), hGF⟩))
              · go_simp
                clear hHeld
                refine hK.out _ _ ?_ (fun hHeld => ?_)
                focus ((try dsimp only); (exact sCells qa4 qa4))
                clear hK K
                (try simp only [Act.put, wz5, wz6, wz7])
                refine wpAnyX_one 5 rfl (by kernel_rfl) (fun K hK => ?_)
                go_simp
                ((try simp only [kv7, kw7]); go_at_call 107; refine (HPT1.out (1 + r7) (by omega) (by omega) _).mono ?_; rintro e8 w8 ⟨q1, q2, q3, qk, rfl, hb8⟩; have hz8 := hb8.size; (try simp only [wz1, wz2, wz3, wz4] at hz8); have XR_4 : IBox w8 (w.heap.size + 1) 3 := IBox.below (by first | exact XR_3 | exact IBox.alloc XR_3 _) hb8; have hc8 : CurAt w8 b (KC + 2 + 2) := CurAt.below (by first | exact hc7 | exact CurAt.alloc hc7 _) hb8; have hg8 := ChgS.of_below (S := fun k => k = b) hb8; have BE4 : Box w8 (w.heap.size) _ := Box.below (by first | exact BE3 | exact Box.alloc BE3 _) hb8; have BP4 : Box w8 (w5.heap.size) _ := Box.below (by first | exact BP3 | exact Box.alloc BP3 _) hb8; (try (with_reducible have BQ4 := made3_below hb8)); (try (have BQ4 := Box.below BQ3 hb8)); (try (have v0 := BQ4.2.1 0 _ rfl; have v1 := BQ4.2.1 1 _ rfl; have v2 := BQ4.2.1 2 _ rfl; have vf := BQ4.2.2; have vl := BQ4.1)); have p0 := BP4.2.1 0 _ rfl; have p1 := BP4.2.1 1 _ rfl; have p2 := BP4.2.1 2 _ rfl; have pf := BP4.2.2; have pl := BP4.1)
                go_wp2_with fail
                clear hHeld
                refine hK.out _ _ ?_ (fun hHeld => ?_)
                focus ((try dsimp only); (exact sCells qa4 qa4))
                clear hK K
                (try simp only [Act.put, wz5, wz6, wz7])
                refine wtk (v := ?_) 6 rfl ?_ (by assumption) ?_
                rotate_left
                focus (intro w hSw; (try dsimp only at hSw); go_simp; (try with_reducible rfl))
                (try simp only [Act.put, wz5, wz6, wz7])
                refine wtk (v := ?_) 7 rfl ?_ (by assumption) ?_
                rotate_left
                focus (intro w hSw; (try dsimp only at hSw); go_simp; (try with_reducible rfl))
                (try simp only [Act.put, wz5, wz6, wz7])
                refine wtk (v := ?_) 8 rfl ?_ (by assumption) ?_
                rotate_left
                focus (intro w hSw; (try dsimp only at hSw); go_simp; (try with_reducible rfl))
                (try simp only [Act.put, wz5, wz6, wz7])
                refine wpAnyX_one 10 rfl (by kernel_rfl) (fun K hK => ?_)
                go_simp
                clear hHeld
                refine hK.out _ _ ?_ (fun hHeld => ?_)
                focus ((try dsimp only); (exact sCells qa4 qa4))
                clear hK K
                (try simp only [Act.put, wz5, wz6, wz7])
                refine wtk (v := ?_) 11 rfl ?_ (by assumption) ?_
                rotate_left
                focus (intro w hSw; (try dsimp only at hSw); go_simp; (try with_reducible rfl))
                (try simp only [Act.put, wz5, wz6, wz7])
                refine wpAnyX_done (by kernel_rfl) ?_ _
                refine NoPanic.normal ?_
                (obtain ⟨zR0, qR0⟩ := XR_4.2.1 0 (by omega); obtain ⟨zR1, qR1⟩ := XR_4.2.1 1 (by omega); obtain ⟨zR2, qR2⟩ := XR_4.2.1 2 (by omega); have fR := XR_4.2.2; have lR := XR_4.1; cases qk <;> (go_wp2_with fail; refine name_worldB (fun WF hWF => ?_); have XF : IBox WF (w.heap.size + 1) 3 := (by subst hWF; exact qa1); have hCF : CurAt WF b (KC + 2 + 2) := (by subst hWF; exact qa2); have hGF : ChgS (fun k => k = b) w WF := (by subst hWF; exact qa6); clear hWF; obtain ⟨x0, k0⟩ := XF.2.1 0 (by omega); obtain ⟨x1, k1⟩ := XF.2.1 1 (by omega); obtain ⟨x2, k2⟩ := XF.2.1 2 (by omega); have kl := XF.1; refine bodyPost_ret (v := .agg #[.int .i64 x0, .int .i64 x1, .int .i64 x2]) (by simp [results, Tryz.results84, go_sem, kl, k0, k1, k2]) rfl ?_; exact ⟨x0, x1, x2, rfl, hCF.mono (by omega), hGF⟩))
            · go_simp
              clear hHeld
              refine hK.out _ _ ?_ (fun hHeld => ?_)
              focus ((try dsimp only); (exact sCells qa4 qa4))
              clear hK K
              (try simp only [Act.put, wz5, wz6, wz7])
              refine wpAnyX_one 3 rfl (by kernel_rfl) (fun K hK => ?_)
              go_simp
              (go_at_call 83; refine (pickC (K := KC + 2) qa2 (by omega) (by omega) (by omega)).mono ?_; rintro e7 w7 ⟨r7, rfl, ra7, rb7, hc7, hg7⟩; have kw7 : wrap64 (1 + r7) = 1 + r7 := win (by omega); have kv7 : IntKind.i64.wrap (1 + r7) = 1 + r7 := IntWalk.i64_in _ (by omega); have hz7 := hg7.size; (try simp only [wz1, wz2, wz3, wz4] at hz7); have XR_3 : IBox w7 (w.heap.size + 1) 3 := IBox.chg (by first | exact XR_2 | exact IBox.drew XR_2 | exact IBox.alloc (IBox.drew XR_2) _ | exact IBox.drew (IBox.alloc XR_2 _)) hg7 (by show ¬ _ = _; omega); have BE3 : Box w7 (w.heap.size) _ := Box.chg (by first | exact BE | exact Box.drewR BE | exact Box.alloc (Box.drewR BE) _ | exact Box.drewR (Box.alloc BE _)) hg7 (by show ¬ _ = _; omega); have BP3 : Box w7 (w5.heap.size) _ := Box.chg (by first | exact BP | exact Box.drewR BP | exact Box.alloc (Box.drewR BP) _ | exact Box.drewR (Box.alloc BP _)) hg7 (by show ¬ _ = _; omega); (try (with_reducible have BQ3 := made3_chg hg7)); (try (with_reducible have BQ3 := made3_chgD hg7)); (try (replace BQ3 := BQ3 (by show ¬ _ = _; first | omega | (simp; omega)); (try simp only [World.size_drew] at BQ3))))
              go_wp2_with fail
              clear hHeld
              refine hK.out _ _ ?_ (fun hHeld => ?_)
              focus ((try dsimp only); (exact sCells qa4 qa4))
              clear hK K
              (try simp only [Act.put, wz5, wz6, wz7])
              refine wtk (v := ?_) 4 rfl ?_ (by assumption) ?_
              rotate_left
              focus (intro w hSw; (try dsimp only at hSw); go_simp; (try with_reducible rfl))
              (try simp only [Act.put, wz5, wz6, wz7])
              refine wpAnyX_one 5 rfl (by kernel_rfl) (fun K hK => ?_)
              go_simp
              ((try simp only [kv7, kw7]); go_at_call 107; refine (HPT1.out (1 + r7) (by omega) (by omega) _).mono ?_; rintro e8 w8 ⟨q1, q2, q3, qk, rfl, hb8⟩; have hz8 := hb8.size; (try simp only [wz1, wz2, wz3, wz4] at hz8); have XR_4 : IBox w8 (w.heap.size + 1) 3 := IBox.below (by first | exact XR_3 | exact IBox.alloc XR_3 _) hb8; have hc8 : CurAt w8 b (KC + 2 + 2) := CurAt.below (by first | exact hc7 | exact CurAt.alloc hc7 _) hb8; have hg8 := ChgS.of_below (S := fun k => k = b) hb8; have BE4 : Box w8 (w.heap.size) _ := Box.below (by first | exact BE3 | exact Box.alloc BE3 _) hb8; have BP4 : Box w8 (w5.heap.size) _ := Box.below (by first | exact BP3 | exact Box.alloc BP3 _) hb8; (try (with_reducible have BQ4 := made3_below hb8)); (try (have BQ4 := Box.below BQ3 hb8)); (try (have v0 := BQ4.2.1 0 _ rfl; have v1 := BQ4.2.1 1 _ rfl; have v2 := BQ4.2.1 2 _ rfl; have vf := BQ4.2.2; have vl := BQ4.1)); have p0 := BP4.2.1 0 _ rfl; have p1 := BP4.2.1 1 _ rfl; have p2 := BP4.2.1 2 _ rfl; have pf := BP4.2.2; have pl := BP4.1)
              go_wp2_with fail
              clear hHeld
              refine hK.out _ _ ?_ (fun hHeld => ?_)
              focus ((try dsimp only); (exact sCells qa4 qa4))
              clear hK K
              (try simp only [Act.put, wz5, wz6, wz7])
              refine wtk (v := ?_) 6 rfl ?_ (by assumption) ?_
              rotate_left
              focus (intro w hSw; (try dsimp only at hSw); go_simp; (try with_reducible rfl))
              (try simp only [Act.put, wz5, wz6, wz7])
              refine wtk (v := ?_) 7 rfl ?_ (by assumption) ?_
              rotate_left
              focus (intro w hSw; (try dsimp only at hSw); go_simp; (try with_reducible rfl))
              (try simp only [Act.put, wz5, wz6, wz7])
              refine wtk (v := ?_) 8 rfl ?_ (by assumption) ?_
              rotate_left
              focus (intro w hSw; (try dsimp only at hSw); go_simp; (try with_reducible rfl))
              (try simp only [Act.put, wz5, wz6, wz7])
              refine wpAnyX_one 10 rfl (by kernel_rfl) (fun K hK => ?_)
              go_simp
              clear hHeld
              refine hK.out _ _ ?_ (fun hHeld => ?_)
              focus ((try dsimp only); (exact sCells qa4 qa4))
              clear hK K
              (try simp only [Act.put, wz5, wz6, wz7])
              refine wtk (v := ?_) 11 rfl ?_ (by assumption) ?_
              rotate_left
              focus (intro w hSw; (try dsimp only at hSw); go_simp; (try with_reducible rfl))
              (try simp only [Act.put, wz5, wz6, wz7])
              refine wpAnyX_done (by kernel_rfl) ?_ _
              refine NoPanic.normal ?_
              (obtain ⟨zR0, qR0⟩ := XR_4.2.1 0 (by omega); obtain ⟨zR1, qR1⟩ := XR_4.2.1 1 (by omega); obtain ⟨zR2, qR2⟩ := XR_4.2.1 2 (by omega); have fR := XR_4.2.2; have lR := XR_4.1; cases qk <;> (go_wp2_with fail; refine name_worldB (fun WF hWF => ?_); have XF : IBox WF (w.heap.size + 1) 3 := (by subst hWF; exact qa1); have hCF : CurAt WF b (KC + 2 + 2) := (by subst hWF; exact qa2); have hGF : ChgS (fun k => k = b) w WF := (by subst hWF; exact qa6); clear hWF; obtain ⟨x0, k0⟩ := XF.2.1 0 (by omega); obtain ⟨x1, k1⟩ := XF.2.1 1 (by omega); obtain ⟨x2, k2⟩ := XF.2.1 2 (by omega); have kl := XF.1; refine bodyPost_ret (v := .agg #[.int .i64 x0, .int .i64 x1, .int .i64 x2]) (by simp [results, Tryz.results84, go_sem, kl, k0, k1, k2]) rfl ?_; exact ⟨x0, x1, x2, rfl, hCF.mono (by omega), hGF⟩))
          case neg =>
            have hps0 : ps.length = 0 := by omega
            clear HP
            go_wp2_with fail
            go_roundw
            case rel => exact ⟨k + 1, by omega, by go_num, hc, XC, XR, hg⟩
            case measure => simp [intOf]; omega
        case neg =>
          go_wp2_with fail
          refine name_worldB (fun WF hWF => ?_)
          have XF : IBox WF (w.heap.size + 1) 3 := by subst hWF; exact qa1
          have hCF : CurAt WF b (KC) := by subst hWF; exact qa2
          have hGF : ChgS (fun k => k = b) w WF := by subst hWF; exact qa6
          clear hWF
          obtain ⟨x0, k0⟩ := XF.2.1 0 (by omega)
          obtain ⟨x1, k1⟩ := XF.2.1 1 (by omega)
          obtain ⟨x2, k2⟩ := XF.2.1 2 (by omega)
          have kl := XF.1
          refine bodyPost_ret (v := .agg #[.int .i64 x0, .int .i64 x1, .int .i64 x2]) (by simp [results, Tryz.results84, go_sem, kl, k0, k1, k2]) rfl ?_
          first | exact ⟨x0, x1, x2, rfl, hCF.mono (by omega), hGF⟩ | exact ⟨⟨x0, x1, x2, rfl⟩, hCF.mono (by omega), hGF⟩
theorem tps_len1 (A B : Int) : 1 ≤ (tps A B).length ∧ (tps A B).length ≤ 20000 := by
  exact ⟨by unfold tps; simp, Nat.le_trans (tps_len A B) (by omega)⟩
def GDL (w : World) (e : Ending) (w' : World) : Prop := ∃ (x y : Int) (a : Option Addr) (l c : Nat) (L : List P3), e = .returned (.tuple #[.agg #[.int .i64 x, .int .i64 y], .slice a l c]) ∧ PtsR w' (.slice a l c) L ∧ Below w.heap.size w w'
theorem sF5 {W : World} {E g L : Nat} {A B : Int} {fx fy fe : Nat → Int} (X : Box W E [.int .i64 A, .int .i64 B]) (h : ∀ n, n < L → W.cell? ⟨g, n * 3, none⟩ = some (.int .i64 (fx n)) ∧ W.cell? ⟨g, n * 3 + 1, none⟩ = some (.int .i64 (fy n)) ∧ W.cell? ⟨g, n * 3 + 2, none⟩ = some (.int .i64 (fe n))) :
    (W.cell? ⟨E, 0, none⟩ = some (.int .i64 A) ∧ W.cell? ⟨E, 1, none⟩ = some (.int .i64 B)) ∧ ∀ n, n < L → W.cell? ⟨g, n * 3, none⟩ = some (.int .i64 (fx n)) ∧ W.cell? ⟨g, n * 3 + 1, none⟩ = some (.int .i64 (fy n)) ∧ W.cell? ⟨g, n * 3 + 2, none⟩ = some (.int .i64 (fe n)) :=
  ⟨⟨X.2.1 0 _ rfl, X.2.1 1 _ rfl⟩, h⟩
theorem sF5s {W : World} {E g L R : Nat} {A B : Int} {u v : Value} {fx fy fe : Nat → Int} (h : (W.cell? ⟨E, 0, none⟩ = some (.int .i64 A) ∧ W.cell? ⟨E, 1, none⟩ = some (.int .i64 B)) ∧ ∀ n, n < L → W.cell? ⟨g, n * 3, none⟩ = some (.int .i64 (fx n)) ∧ W.cell? ⟨g, n * 3 + 1, none⟩ = some (.int .i64 (fy n)) ∧ W.cell? ⟨g, n * 3 + 2, none⟩ = some (.int .i64 (fe n)))
    (h1 : R ≠ E) (h2 : R ≠ g) (hE : E < W.heap.size) (hg : g < W.heap.size) :
    (((W.setCell ⟨R, 0, none⟩ u).setCell ⟨R, 1, none⟩ v).cell? ⟨E, 0, none⟩ = some (.int .i64 A) ∧ ((W.setCell ⟨R, 0, none⟩ u).setCell ⟨R, 1, none⟩ v).cell? ⟨E, 1, none⟩ = some (.int .i64 B)) ∧ ∀ n, n < L → ((W.setCell ⟨R, 0, none⟩ u).setCell ⟨R, 1, none⟩ v).cell? ⟨g, n * 3, none⟩ = some (.int .i64 (fx n)) ∧ ((W.setCell ⟨R, 0, none⟩ u).setCell ⟨R, 1, none⟩ v).cell? ⟨g, n * 3 + 1, none⟩ = some (.int .i64 (fy n)) ∧ ((W.setCell ⟨R, 0, none⟩ u).setCell ⟨R, 1, none⟩ v).cell? ⟨g, n * 3 + 2, none⟩ = some (.int .i64 (fe n)) := by
  have hs : (W.setCell ⟨R, 0, none⟩ u).heap.size = W.heap.size := by simp
  have k : ∀ {q : Addr} {x : Value}, q.block < W.heap.size → R ≠ q.block → W.cell? q = some x → ((W.setCell ⟨R, 0, none⟩ u).setCell ⟨R, 1, none⟩ v).cell? q = some x := fun {q x} hq hn hx => cell_ne (by rw [hs]; exact hq) hn v x (cell_ne hq hn u x hx)
  exact ⟨⟨k hE h1 h.1.1, k hE h1 h.1.2⟩, fun n hn => ⟨k hg h2 (h.2 n hn).1, k hg h2 (h.2 n hn).2.1, k hg h2 (h.2 n hn).2.2⟩⟩
theorem sF5c {W W' : World} {b E g L : Nat} {A B : Int} {fx fy fe : Nat → Int} (h : (W.cell? ⟨E, 0, none⟩ = some (.int .i64 A) ∧ W.cell? ⟨E, 1, none⟩ = some (.int .i64 B)) ∧ ∀ n, n < L → W.cell? ⟨g, n * 3, none⟩ = some (.int .i64 (fx n)) ∧ W.cell? ⟨g, n * 3 + 1, none⟩ = some (.int .i64 (fy n)) ∧ W.cell? ⟨g, n * 3 + 2, none⟩ = some (.int .i64 (fe n)))
    (hc : ChgS (fun k => k = b) W W') (hE : E < W.heap.size) (hg : g < W.heap.size) (h1 : E ≠ b) (h2 : g ≠ b) :
    (W'.cell? ⟨E, 0, none⟩ = some (.int .i64 A) ∧ W'.cell? ⟨E, 1, none⟩ = some (.int .i64 B)) ∧ ∀ n, n < L → W'.cell? ⟨g, n * 3, none⟩ = some (.int .i64 (fx n)) ∧ W'.cell? ⟨g, n * 3 + 1, none⟩ = some (.int .i64 (fy n)) ∧ W'.cell? ⟨g, n * 3 + 2, none⟩ = some (.int .i64 (fe n)) :=
  ⟨⟨(hc.cellB hE h1).trans h.1.1, (hc.cellB hE h1).trans h.1.2⟩, fun n hn => ⟨(hc.cellB hg h2).trans (h.2 n hn).1, (hc.cellB hg h2).trans (h.2 n hn).2.1, (hc.cellB hg h2).trans (h.2 n hn).2.2⟩⟩
set_option maxRecDepth 100000 in
set_option maxHeartbeats 4000000 in
theorem DrawIsTorsionPointC {a : Option Addr} {l c : Nat} {w : World} (h : Byts w w.heap.size (.slice a l c)) : Calls Tryz.prog 39 #[.slice a l c] w (GD5 w) := by
  unfold GD5
  have HG := Lib.hid (fun A B w => ecGood_any A B w)
  have HTP := Lib.hid (fun A B hC w => toPoints_any A B hC w)
  have HLT := Lib.hid (fun A B => tps_len1 A B)
  go_enter Tryz.func39, Tryz.ntmps39
  go_wp2_with fail
  refine name_worldC (fun W1 hW1 => ?_)
  have hB1 : Below w.heap.size w W1 := by subst hW1; exact gr
  have hC1 : CurAt W1 (w.heap.size + 1 + 1) 0 := by
    refine CurAt.first (v := .slice a l c) ?_ (by refine Byts.mono (h.below hB1 (Nat.le_refl _)) (by omega))
    subst hW1; exact box_three (by first | omega | (simp; done) | (simp; omega)) (by simp [go_sem]) (by simp [go_sem]) (by simp [go_sem]) (fun o => by simp [go_sem])
  have YR : IBox W1 (w.heap.size) 2 := by subst hW1; exact qa1
  have YS : IBox W1 (w.heap.size + 1) 3 := by subst hW1; exact qa1
  have hz0 := hB1.size; have hclt0 := hC1.lt
  clear hW1
  refine (withTorsionC (K := 0) hC1 (by omega)).mono ?_
  rintro e1 w1 ⟨A, B, rfl, hcn, hgn⟩
  have hz1 := hgn.size
  have XR := IBox.chg YR hgn (by show ¬ _ = _; omega)
  have XS := IBox.chg YS hgn (by show ¬ _ = _; omega)
  have hc := hcn; have hg := bthenG hgn hB1 (by omega) (by omega)
  clear hcn hgn hC1 hB1 YR YS
  obtain ⟨zR0, qR0⟩ := XR.2.1 0 (by omega); obtain ⟨zR1, qR1⟩ := XR.2.1 1 (by omega); have fR := XR.2.2; have lR := XR.1
  obtain ⟨zS0, qS0⟩ := XS.2.1 0 (by omega); obtain ⟨zS1, qS1⟩ := XS.2.1 1 (by omega); obtain ⟨zS2, qS2⟩ := XS.2.1 2 (by omega); have fS := XS.2.2; have lS := XS.1
  cases hC : isC A B
  case false =>
    have HG1 := Lib.hid (fun w => HG.out A B w); rw [hC] at HG1; clear hC HG HTP
    go_wp2_with fail
    refine name_worldC (fun V2 hV => ?_)
    have hcV : CurAt V2 (w.heap.size + 1 + 1) (0 + 60) := by subst hV; exact qa2
    have hgV : Below w.heap.size w V2 := by subst hV; exact qa8
    have hclt2 := hcV.lt
    have YR : IBox V2 (w.heap.size) 2 := by subst hV; exact qa1
    have YS : IBox V2 (w.heap.size + 1) 3 := by subst hV; exact qa1
    have YE : Box V2 (w1.heap.size) [.int .i64 A, .int .i64 B] := by subst hV; exact box_two (by first | omega | (simp; done) | (simp; omega)) (by simp [go_sem]) (by simp [go_sem]) (fun o => by simp [go_sem])
    clear qR0 qR1 qS0 qS1 qS2 fR fS
    have hzV : w1.heap.size ≤ V2.heap.size := by subst hV; first | exact Nat.le_refl _ | (simp; done) | (simp; omega)
    clear hV XR XS hc hg
    refine (HG1.out _).mono ?_
    rintro e2 w2 ⟨rfl, hbn⟩
    have hz2 := hbn.size
    have XE := YE.below hbn
    have XR := IBox.below YR hbn
    have XS := IBox.below YS hbn
    have hc := hcV.below hbn; have hg := bthen2 hbn hgV
    clear hcV hgV YE YR YS hbn
    have qE0 := XE.2.1 0 _ rfl; have qE1 := XE.2.1 1 _ rfl; have fE := XE.2.2; have lE := XE.1
    obtain ⟨zR0, qR0⟩ := XR.2.1 0 (by omega); obtain ⟨zR1, qR1⟩ := XR.2.1 1 (by omega); have fR := XR.2.2; have lR := XR.1
    obtain ⟨zS0, qS0⟩ := XS.2.1 0 (by omega); obtain ⟨zS1, qS1⟩ := XS.2.1 1 (by omega); obtain ⟨zS2, qS2⟩ := XS.2.1 2 (by omega); have fS := XS.2.2; have lS := XS.1
    go_wp2_with fail
    refine name_worldC (fun V3 hV => ?_)
    have hcV : CurAt V3 (w.heap.size + 1 + 1) (0 + 60) := by subst hV; exact qa2
    have hgV : Below w.heap.size w V3 := by subst hV; exact qa8
    have hclt3 := hcV.lt
    have YE : Box V3 (w1.heap.size) [.int .i64 A, .int .i64 B] := by subst hV; exact qa9
    have YR : IBox V3 (w.heap.size) 2 := by subst hV; exact qa1
    have YS : IBox V3 (w.heap.size + 1) 3 := by subst hV; exact qa1
    clear qE0 qE1 qR0 qR1 qS0 qS1 qS2 fE fR fS
    have hzV : w2.heap.size ≤ V3.heap.size := by subst hV; first | exact Nat.le_refl _ | (simp; done) | (simp; omega)
    clear hV XE XR XS hc hg
    refine (anyPointC (K := 0 + 60) hcV (by omega)).mono ?_
    rintro e3 w3 ⟨ax, ay, az, at1, au, rfl, hcn, hgn⟩
    have hz3 := hgn.size
    have XE := YE.chg hgn (by show ¬ _ = _; omega)
    have XR := IBox.chg YR hgn (by show ¬ _ = _; omega)
    have XS := IBox.chg YS hgn (by show ¬ _ = _; omega)
    have hc := hcn; have hg := bthenG hgn hgV (by omega) (by omega)
    clear hcV hgV YE YR YS hcn hgn
    have qE0 := XE.2.1 0 _ rfl; have qE1 := XE.2.1 1 _ rfl; have fE := XE.2.2; have lE := XE.1
    obtain ⟨zR0, qR0⟩ := XR.2.1 0 (by omega); obtain ⟨zR1, qR1⟩ := XR.2.1 1 (by omega); have fR := XR.2.2; have lR := XR.1
    obtain ⟨zS0, qS0⟩ := XS.2.1 0 (by omega); obtain ⟨zS1, qS1⟩ := XS.2.1 1 (by omega); obtain ⟨zS2, qS2⟩ := XS.2.1 2 (by omega); have fS := XS.2.2; have lS := XS.1
    go_wp2_with fail
    refine name_worldB (fun WF hWF => ?_)
    have FR : IBox WF (w.heap.size) 2 := by subst hWF; exact qa1
    have FS : IBox WF (w.heap.size + 1) 3 := by subst hWF; exact qa1
    have hGF : Below w.heap.size w WF := by subst hWF; exact qa8
    clear hWF
    obtain ⟨x0, k0⟩ := FR.2.1 0 (by omega)
    obtain ⟨x1, k1⟩ := FR.2.1 1 (by omega)
    obtain ⟨y0, m0⟩ := FS.2.1 0 (by omega)
    obtain ⟨y1, m1⟩ := FS.2.1 1 (by omega)
    obtain ⟨y2, m2⟩ := FS.2.1 2 (by omega)
    have kl := FR.1; have ml := FS.1
    refine bodyPost_ret (v := .tuple #[.agg #[.int .i64 x0, .int .i64 x1], .agg #[.int .i64 y0, .int .i64 y1, .int .i64 y2]]) (by simp [results, Tryz.results39, go_sem, kl, ml, k0, k1, m0, m1, m2]) rfl ?_
    exact ⟨x0, x1, y0, y1, y2, rfl, hGF⟩
  case true =>
    have HG1 := Lib.hid (fun w => HG.out A B w); rw [hC] at HG1; have HT := Lib.hid (fun w => HTP.out A B hC w); clear hC HG HTP
    go_wp2_with fail
    refine name_worldC (fun V2 hV => ?_)
    have hcV : CurAt V2 (w.heap.size + 1 + 1) (0 + 60) := by subst hV; exact qa2
    have hgV : Below w.heap.size w V2 := by subst hV; exact qa8
    have hclt2 := hcV.lt
    have YR : IBox V2 (w.heap.size) 2 := by subst hV; exact qa1
    have YS : IBox V2 (w.heap.size + 1) 3 := by subst hV; exact qa1
    have YE : Box V2 (w1.heap.size) [.int .i64 A, .int .i64 B] := by subst hV; exact box_two (by first | omega | (simp; done) | (simp; omega)) (by simp [go_sem]) (by simp [go_sem]) (fun o => by simp [go_sem])
    clear qR0 qR1 qS0 qS1 qS2 fR fS
    have hzV : w1.heap.size ≤ V2.heap.size := by subst hV; first | exact Nat.le_refl _ | (simp; done) | (simp; omega)
    clear hV XR XS hc hg
    refine (HG1.out _).mono ?_
    rintro e2 w2 ⟨rfl, hbn⟩
    have hz2 := hbn.size
    have XE := YE.below hbn
    have XR := IBox.below YR hbn
    have XS := IBox.below YS hbn
    have hc := hcV.below hbn; have hg := bthen2 hbn hgV
    clear hcV hgV YE YR YS hbn
    have qE0 := XE.2.1 0 _ rfl; have qE1 := XE.2.1 1 _ rfl; have fE := XE.2.2; have lE := XE.1
    obtain ⟨zR0, qR0⟩ := XR.2.1 0 (by omega); obtain ⟨zR1, qR1⟩ := XR.2.1 1 (by omega); have fR := XR.2.2; have lR := XR.1
    obtain ⟨zS0, qS0⟩ := XS.2.1 0 (by omega); obtain ⟨zS1, qS1⟩ := XS.2.1 1 (by omega); obtain ⟨zS2, qS2⟩ := XS.2.1 2 (by omega); have fS := XS.2.2; have lS := XS.1
    go_wp2_with fail
    refine name_worldC (fun V3 hV => ?_)
    have hcV : CurAt V3 (w.heap.size + 1 + 1) (0 + 60) := by subst hV; exact qa2
    have hgV : Below w.heap.size w V3 := by subst hV; exact qa8
    have hclt3 := hcV.lt
    have YE : Box V3 (w1.heap.size) [.int .i64 A, .int .i64 B] := by subst hV; exact qa9
    have YR : IBox V3 (w.heap.size) 2 := by subst hV; exact qa1
    have YS : IBox V3 (w.heap.size + 1) 3 := by subst hV; exact qa1
    clear qE0 qE1 qR0 qR1 qS0 qS1 qS2 fE fR fS
    have hzV : w2.heap.size ≤ V3.heap.size := by subst hV; first | exact Nat.le_refl _ | (simp; done) | (simp; omega)
    clear hV XE XR XS hc hg
    refine (oneC (K := 0 + 60) hcV (by omega) (by omega)).mono ?_
    rintro e3 w3 ⟨ro, rfl, hcn, hgn⟩
    have hz3 := hgn.size
    have XE := YE.chg hgn (by show ¬ _ = _; omega)
    have XR := IBox.chg YR hgn (by show ¬ _ = _; omega)
    have XS := IBox.chg YS hgn (by show ¬ _ = _; omega)
    have hc := hcn; have hg := bthenG hgn hgV (by omega) (by omega)
    clear hcV hgV YE YR YS hcn hgn
    have qE0 := XE.2.1 0 _ rfl; have qE1 := XE.2.1 1 _ rfl; have fE := XE.2.2; have lE := XE.1
    obtain ⟨zR0, qR0⟩ := XR.2.1 0 (by omega); obtain ⟨zR1, qR1⟩ := XR.2.1 1 (by omega); have fR := XR.2.2; have lR := XR.1
    obtain ⟨zS0, qS0⟩ := XS.2.1 0 (by omega); obtain ⟨zS1, qS1⟩ := XS.2.1 1 (by omega); obtain ⟨zS2, qS2⟩ := XS.2.1 2 (by omega); have fS := XS.2.2; have lS := XS.1
    cases ro
    case false =>
      go_wp2_with fail
      refine name_worldC (fun V4 hV => ?_)
      have hcV : CurAt V4 (w.heap.size + 1 + 1) (0 + 60 + 2) := by subst hV; exact qa2
      have hgV : Below w.heap.size w V4 := by subst hV; exact qa8
      have hclt4 := hcV.lt
      have YE : Box V4 (w1.heap.size) [.int .i64 A, .int .i64 B] := by subst hV; exact qa9
      have YR : IBox V4 (w.heap.size) 2 := by subst hV; exact qa1
      have YS : IBox V4 (w.heap.size + 1) 3 := by subst hV; exact qa1
      clear qE0 qE1 qR0 qR1 qS0 qS1 qS2 fE fR fS
      have hzV : w3.heap.size ≤ V4.heap.size := by subst hV; first | exact Nat.le_refl _ | (simp; done) | (simp; omega)
      clear hV XE XR XS hc hg
      refine (anyPointC (K := 0 + 60 + 2) hcV (by omega)).mono ?_
      rintro e4 w4 ⟨ax, ay, az, at1, au, rfl, hcn, hgn⟩
      have hz4 := hgn.size
      have XE := YE.chg hgn (by show ¬ _ = _; omega)
      have XR := IBox.chg YR hgn (by show ¬ _ = _; omega)
      have XS := IBox.chg YS hgn (by show ¬ _ = _; omega)
      have hc := hcn; have hg := bthenG hgn hgV (by omega) (by omega)
      clear hcV hgV YE YR YS hcn hgn
      have qE0 := XE.2.1 0 _ rfl; have qE1 := XE.2.1 1 _ rfl; have fE := XE.2.2; have lE := XE.1
      obtain ⟨zR0, qR0⟩ := XR.2.1 0 (by omega); obtain ⟨zR1, qR1⟩ := XR.2.1 1 (by omega); have fR := XR.2.2; have lR := XR.1
      obtain ⟨zS0, qS0⟩ := XS.2.1 0 (by omega); obtain ⟨zS1, qS1⟩ := XS.2.1 1 (by omega); obtain ⟨zS2, qS2⟩ := XS.2.1 2 (by omega); have fS := XS.2.2; have lS := XS.1
      go_wp2_with fail
      refine name_worldB (fun WF hWF => ?_)
      have FR : IBox WF (w.heap.size) 2 := by subst hWF; exact qa1
      have FS : IBox WF (w.heap.size + 1) 3 := by subst hWF; exact qa1
      have hGF : Below w.heap.size w WF := by subst hWF; exact qa8
      clear hWF
      obtain ⟨x0, k0⟩ := FR.2.1 0 (by omega)
      obtain ⟨x1, k1⟩ := FR.2.1 1 (by omega)
      obtain ⟨y0, m0⟩ := FS.2.1 0 (by omega)
      obtain ⟨y1, m1⟩ := FS.2.1 1 (by omega)
      obtain ⟨y2, m2⟩ := FS.2.1 2 (by omega)
      have kl := FR.1; have ml := FS.1
      refine bodyPost_ret (v := .tuple #[.agg #[.int .i64 x0, .int .i64 x1], .agg #[.int .i64 y0, .int .i64 y1, .int .i64 y2]]) (by simp [results, Tryz.results39, go_sem, kl, ml, k0, k1, m0, m1, m2]) rfl ?_
      exact ⟨x0, x1, y0, y1, y2, rfl, hGF⟩
    case true =>
      go_wp2_with fail
      refine name_worldC (fun V4 hV => ?_)
      have hcV : CurAt V4 (w.heap.size + 1 + 1) (0 + 60 + 2) := by subst hV; exact qa2
      have hgV : Below w.heap.size w V4 := by subst hV; exact qa8
      have hclt4 := hcV.lt
      have YE : Box V4 (w1.heap.size) [.int .i64 A, .int .i64 B] := by subst hV; exact qa9
      have YR : IBox V4 (w.heap.size) 2 := by subst hV; exact qa1
      have YS : IBox V4 (w.heap.size + 1) 3 := by subst hV; exact qa1
      clear qE0 qE1 qR0 qR1 qS0 qS1 qS2 fE fR fS
      have hzV : w3.heap.size ≤ V4.heap.size := by subst hV; first | exact Nat.le_refl _ | (simp; done) | (simp; omega)
      clear hV XE XR XS hc hg
      refine (HT.out _).mono ?_
      rintro e4 w4 ⟨a4, l4, c4, rfl, OL, hbn⟩
      have hz4 := hbn.size
      have XE := YE.below hbn
      have XR := IBox.below YR hbn
      have XS := IBox.below YS hbn
      have hc := hcV.below hbn; have hg := bthen2 hbn hgV
      clear hcV hgV YE YR YS hbn
      have qE0 := XE.2.1 0 _ rfl; have qE1 := XE.2.1 1 _ rfl; have fE := XE.2.2; have lE := XE.1
      obtain ⟨zR0, qR0⟩ := XR.2.1 0 (by omega); obtain ⟨zR1, qR1⟩ := XR.2.1 1 (by omega); have fR := XR.2.2; have lR := XR.1
      obtain ⟨zS0, qS0⟩ := XS.2.1 0 (by omega); obtain ⟨zS1, qS1⟩ := XS.2.1 1 (by omega); obtain ⟨zS2, qS2⟩ := XS.2.1 2 (by omega); have fS := XS.2.2; have lS := XS.1
      obtain ⟨a9, c9, he9⟩ := OL.slice
      obtain ⟨rfl, rfl, rfl⟩ : a4 = a9 ∧ l4 = _ ∧ c4 = c9 := by simpa using he9
      obtain ⟨hl1, hl2⟩ := HLT.out A B
      clear he9 HT HLT HG1
      generalize tps A B = ps at *
      have hOLB : w1.heap.size + 1 ≤ V4.heap.size := by have := lE; omega
      obtain ⟨-, g, rfl, hgB, hgl, -⟩ := OL.at0 (n := 0) (by omega)
      have HCE := Lib.hid (fun (n : Nat) (hn : n < ps.length) => by exact (OL.at0 hn).2)
      clear OL
      have HCF : ∃ fx fy fe : Nat → Int, ∀ n, n < ps.length → w4.cell? ⟨g, n * 3, none⟩ = some (.int .i64 (fx n)) ∧ w4.cell? ⟨g, n * 3 + 1, none⟩ = some (.int .i64 (fy n)) ∧ w4.cell? ⟨g, n * 3 + 2, none⟩ = some (.int .i64 (fe n)) := by
        refine ⟨fun n => (ps.getD n (0, 0, 0)).1, fun n => (ps.getD n (0, 0, 0)).2.1, fun n => (ps.getD n (0, 0, 0)).2.2, fun n hn => ?_⟩
        obtain ⟨g9, hg9, -, -, x, y, e, he, c0, c1, c2⟩ := HCE.out n hn
        obtain rfl : g = g9 := by simpa using hg9
        simp only [List.getD, he, Option.getD_some]; exact ⟨c0, c1, c2⟩
      obtain ⟨fx, fy, fe, HCF⟩ := HCF
      clear HCE
      have HF := Lib.hid HCF; clear HCF
      go_wp2_with fail
      have hc2 : CurAt w4 (w.heap.size + 1 + 1) (0 + 60 + 2) := hc
      clear qE0 qE1 qR0 qR1 qS0 qS1 qS2 fE fR fS
      clear hc
      have HS0 := Lib.hid (sF5 XE HF.out)
      have eS1 : w1.heap.size < w4.heap.size := lE
      have eS2 : g < w4.heap.size := hgl
      have eS3 : w1.heap.size ≠ w.heap.size + 1 + 1 := by omega
      have eS4 : g ≠ w.heap.size + 1 + 1 := by omega
      have eR1 : w.heap.size ≠ w1.heap.size := by omega
      have eR2 : w.heap.size ≠ g := by omega
      refine wp_region_x (fun w' => (w'.cell? ⟨w1.heap.size, 0, none⟩ = some (.int .i64 A) ∧ w'.cell? ⟨w1.heap.size, 1, none⟩ = some (.int .i64 B)) ∧ ∀ n, n < ps.length → w'.cell? ⟨g, n * 3, none⟩ = some (.int .i64 (fx n)) ∧ w'.cell? ⟨g, n * 3 + 1, none⟩ = some (.int .i64 (fy n)) ∧ w'.cell? ⟨g, n * 3 + 2, none⟩ = some (.int .i64 (fe n))) (fun i => decide (i < 9)) (by kernel_rfl) ?_ (fun hHeld => ?_)
      focus ((try dsimp only); (first | exact HS0.out | exact HS1.out | exact sF5s HS1.out eR1 eR2 eR3 eR4))
      refine wtk (v := ?_) 0 rfl ?_ (by assumption) ?_
      rotate_left
      focus (intro w hSw; (try dsimp only at hSw); go_simp; (try with_reducible rfl))
      (try simp only [Act.put, wz5, wz6, wz7])
      refine wtk (v := ?_) 1 rfl ?_ (by assumption) ?_
      rotate_left
      focus (intro w hSw; (try dsimp only at hSw); go_simp; (try with_reducible rfl))
      (try simp only [Act.put, wz5, wz6, wz7])
      refine wtk (v := ?_) 2 rfl ?_ (by assumption) ?_
      rotate_left
      focus (intro w hSw; (try dsimp only at hSw); go_simp; (try with_reducible rfl))
      (try simp only [Act.put, wz5, wz6, wz7])
      refine wtk (v := ?_) 3 rfl ?_ (by assumption) ?_
      rotate_left
      focus (intro w hSw; (try dsimp only at hSw); go_simp; (try with_reducible rfl))
      (try simp only [Act.put, wz5, wz6, wz7])
      refine wtk (v := ?_) 4 rfl ?_ (by assumption) ?_
      rotate_left
      focus (intro w hSw; (try dsimp only at hSw); go_simp; (try with_reducible rfl))
      (try simp only [Act.put, wz5, wz6, wz7])
      refine wpAnyX_one 5 rfl (by kernel_rfl) (fun K hK => ?_)
      go_simp
      (go_at_call 83; refine (pickC (K := 0 + 60 + 2) qa2 (by omega) (by omega) (by omega)).mono ?_; rintro e7 w7 ⟨r7, rfl, ra7, rb7, hc7, hg7⟩; have hz7 := hg7.size; (try simp only [wz1, wz2, wz3, wz4] at hz7); have XR7 : IBox w7 (w.heap.size) 2 := IBox.chg (by first | exact XR | exact IBox.drew XR | exact IBox.alloc (IBox.drew XR) _ | exact IBox.drew (IBox.alloc XR _)) hg7 (by show ¬ _ = _; omega); have XS7 : IBox w7 (w.heap.size + 1) 3 := IBox.chg (by first | exact XS | exact IBox.drew XS | exact IBox.alloc (IBox.drew XS) _ | exact IBox.drew (IBox.alloc XS _)) hg7 (by show ¬ _ = _; omega); have hg70 : ChgS (fun k => k = w.heap.size + 1 + 1) w4 w7 := (by first | exact hg7 | exact (ChgS.drewX (ChgS.refl _ _)).trans hg7); have HS1 := Lib.hid (sF5c (W := w4) (E := w1.heap.size) (g := g) HS0.out hg70 eS1 eS2 eS3 eS4); have eR3 : w1.heap.size < w7.heap.size := (by omega); have eR4 : g < w7.heap.size := (by omega); obtain ⟨n, rfl⟩ : ∃ n : Nat, r7 = n := ⟨r7.toNat, by omega⟩; have hn : n < ps.length := (by omega); have hn0 : (0 : Int) ≤ (n : Int) := (by omega); have hn1 : (n : Int) < (ps.length : Int) := (by omega); obtain ⟨zR0, qR0⟩ := XR7.2.1 0 (by omega); obtain ⟨zR1, qR1⟩ := XR7.2.1 1 (by omega); have fR := XR7.2.2; have lR7 := XR7.1; obtain ⟨zS0, qS0⟩ := XS7.2.1 0 (by omega); obtain ⟨zS1, qS1⟩ := XS7.2.1 1 (by omega); obtain ⟨zS2, qS2⟩ := XS7.2.1 2 (by omega); have fS := XS7.2.2; have lS7 := XS7.1)
      go_wp2_with fail
      clear hHeld
      refine hK.out _ _ ?_ (fun hHeld => ?_)
      focus ((try dsimp only); (first | exact HS0.out | exact HS1.out | exact sF5s HS1.out eR1 eR2 eR3 eR4))
      clear hK K
      (try simp only [Act.put, wz5, wz6, wz7])
      refine wtk (v := ?_) 6 rfl ?_ (by assumption) ?_
      rotate_left
      focus (intro w hSw; (try dsimp only at hSw); go_simp; (try with_reducible rfl))
      (try simp only [Act.put, wz5, wz6, wz7])
      refine wtk (v := ?_) 7 rfl ?_ (by assumption) ?_
      rotate_left
      focus (intro w hSw; (try dsimp only at hSw); have t0 := (hSw.2 n hn).1; have t1 := (hSw.2 n hn).2.1; have t2 := (hSw.2 n hn).2.2; clear hSw; go_simp; (try with_reducible rfl))
      (try simp only [Act.put, wz5, wz6, wz7])
      refine wpAnyX_one 8 rfl (by kernel_rfl) (fun K hK => ?_)
      go_simp
      clear hHeld
      refine hK.out _ _ ?_ (fun hHeld => ?_)
      focus ((try dsimp only); (first | exact HS0.out | exact HS1.out | exact sF5s HS1.out eR1 eR2 eR3 eR4))
      clear hK K
      (try simp only [Act.put, wz5, wz6, wz7])
      refine wpAnyX_last (D := fun i => decide (i < 9)) 9 rfl (by kernel_rfl) (by rfl) (fun K hK => ?_)
      go_simp
      refine hK.out _ _ ?_
      clear hK K
      (try simp only [Act.put, wz5, wz6, wz7])
      refine wpAnyX_done (by kernel_rfl) ?_ _
      refine NoPanic.normal ?_
      go_wp2_with fail
      refine name_worldB (fun WF hWF => ?_)
      have FR : IBox WF (w.heap.size) 2 := by subst hWF; exact qa1
      have FS : IBox WF (w.heap.size + 1) 3 := by subst hWF; exact qa1
      have hGF : Below w.heap.size w WF := by subst hWF; exact qa8
      clear hWF
      obtain ⟨x0, k0⟩ := FR.2.1 0 (by omega)
      obtain ⟨x1, k1⟩ := FR.2.1 1 (by omega)
      obtain ⟨y0, m0⟩ := FS.2.1 0 (by omega)
      obtain ⟨y1, m1⟩ := FS.2.1 1 (by omega)
      obtain ⟨y2, m2⟩ := FS.2.1 2 (by omega)
      have kl := FR.1; have ml := FS.1
      refine bodyPost_ret (v := .tuple #[.agg #[.int .i64 x0, .int .i64 x1], .agg #[.int .i64 y0, .int .i64 y1, .int .i64 y2]]) (by simp [results, Tryz.results39, go_sem, kl, ml, k0, k1, m0, m1, m2]) rfl ?_
      exact ⟨x0, x1, y0, y1, y2, rfl, hGF⟩
theorem PtsR.drop1 {w : World} {g c : Nat} {ps : List P3} (h : PtsR w (.slice (some ⟨g, 0, none⟩) ps.length c) ps) : PtsR w (.slice (some ⟨g, 3, none⟩) (ps.length - 1) (c - 1)) (ps.drop 1) := by
  obtain ⟨a', c', hv, hm, hc⟩ := h
  refine ⟨some ⟨g, 3, none⟩, c - 1, by rw [List.length_drop], by rw [List.length_drop]; omega, fun i p hp => ?_⟩
  rw [List.getElem?_drop] at hp
  obtain ⟨b, off, ha, hb, c0, c1, c2⟩ := hc (1 + i) p hp
  obtain ⟨rfl, -, -⟩ := by simpa using hv
  obtain ⟨rfl, rfl⟩ : g = b ∧ 0 = off := by simpa using ha
  have e : 0 + (1 + i) * 3 = 3 + i * 3 := by omega
  rw [e] at c0 c1 c2
  exact ⟨g, 3, rfl, hb, c0, c1, c2⟩
theorem PtsR.take1 {w : World} {a : Option Addr} {c n : Nat} {ps : List P3} (h : PtsR w (.slice a ps.length c) ps) (hn : n ≤ ps.length) : PtsR w (.slice a n c) (ps.take n) := by
  obtain ⟨a', c', hv, hm, hc⟩ := h
  obtain ⟨rfl, rfl⟩ := by simpa using hv
  refine ⟨a, c, by rw [List.length_take, Nat.min_eq_left hn], by rw [List.length_take]; omega, fun i p hp => ?_⟩
  rw [List.getElem?_take] at hp
  split at hp
  · exact hc i p hp
  · cases hp
theorem PtsR.nil0 (w : World) (a : Option Addr) (c : Nat) : PtsR w (.slice a 0 c) [] := ⟨a, c, rfl, by simp, by simp⟩
def lenV : Value → Nat
  | .slice _ l _ => l
  | _ => 0
theorem Box.belowL {w w' : World} {b N : Nat} {vs : List Value} (h : Box w b vs) (hb : Below N w w') (hN : b < N) : Box w' b vs :=
  ⟨Nat.lt_of_lt_of_le h.1 hb.size, fun i v hi => (hb.cell (p := ⟨b, i, none⟩) hN).trans (h.2.1 i v hi), fun o => (hb.frozen (p := ⟨b, o, none⟩) hN).trans (h.2.2 o)⟩
theorem IBox.belowL {w w' : World} {b N n : Nat} (h : IBox w b n) (hb : Below N w w') (hN : b < N) : IBox w' b n :=
  ⟨Nat.lt_of_lt_of_le h.1 hb.size, fun i hi => by obtain ⟨z, hz⟩ := h.2.1 i hi; exact ⟨z, (hb.cell (p := ⟨b, i, none⟩) hN).trans hz⟩, fun o => (hb.frozen (p := ⟨b, o, none⟩) hN).trans (h.2.2 o)⟩
theorem OwnP.cap {w : World} {B : Nat} {a : Option Addr} {l c : Nat} {ps : List P3} (h : OwnP w B (.slice a l c) ps) : ps.length ≤ c ∧ c ≤ 9223372036854775807 := by
  rcases h.2 with ⟨hv, hn⟩ | ⟨g, cap, cur, hv, hg, hh, hc, hm, hs, ht⟩
  · obtain ⟨rfl, rfl, rfl⟩ := by simpa using hv
    omega
  · obtain ⟨rfl, rfl, rfl⟩ := by simpa using hv
    exact ⟨hc, hm⟩
set_option maxRecDepth 100000 in
set_option maxHeartbeats 4000000 in
theorem DrawCheckTorsionC {a : Option Addr} {l c : Nat} {w : World} (h : Byts w w.heap.size (.slice a l c)) : Calls Tryz.prog 37 #[.slice a l c] w (GDL w) := by
  unfold GDL
  have HG := Lib.hid (fun A B w => ecGood_any A B w)
  have HTP := Lib.hid (fun A B hC w => toPoints_any A B hC w)
  have HLT := Lib.hid (fun A B => tps_len1 A B)
  go_enter Tryz.func37, Tryz.ntmps37
  go_wp2_with fail
  refine name_worldC (fun W1 hW1 => ?_)
  have hB1 : Below w.heap.size w W1 := by subst hW1; exact gr
  have hC1 : CurAt W1 (w.heap.size + 1) 0 := by
    refine CurAt.first (v := .slice a l c) ?_ (by refine Byts.mono (h.below hB1 (Nat.le_refl _)) (by omega))
    subst hW1; exact box_three (by first | omega | (simp; done) | (simp; omega)) (by simp [go_sem]) (by simp [go_sem]) (by simp [go_sem]) (fun o => by simp [go_sem])
  have YR : IBox W1 (w.heap.size) 2 := by subst hW1; exact qa1
  have hz0 := hB1.size; have hclt0 := hC1.lt
  clear hW1
  refine (withTorsionC (K := 0) hC1 (by omega)).mono ?_
  rintro e1 w1 ⟨A, B, rfl, hcn, hgn⟩
  have hz1 := hgn.size
  have XR := IBox.chg YR hgn (by show ¬ _ = _; omega)
  have hc := hcn; have hg := bthenG hgn hB1 (by omega) (by omega)
  clear hcn hgn hC1 hB1 YR
  obtain ⟨zR0, qR0⟩ := XR.2.1 0 (by omega); obtain ⟨zR1, qR1⟩ := XR.2.1 1 (by omega); have fR := XR.2.2; have lR := XR.1
  cases hC : isC A B
  case false =>
    have HG1 := Lib.hid (fun w => HG.out A B w); rw [hC] at HG1; clear hC HG HTP
    go_wp2_with fail
    refine name_worldC (fun V2 hV => ?_)
    have hcV : CurAt V2 (w.heap.size + 1) (0 + 60) := by subst hV; exact qa2
    have hgV : Below w.heap.size w V2 := by subst hV; exact qa8
    have hclt2 := hcV.lt
    have YR : IBox V2 (w.heap.size) 2 := by subst hV; exact qa1
    have YE : Box V2 (w1.heap.size) [.int .i64 A, .int .i64 B] := by subst hV; exact box_two (by first | omega | (simp; done) | (simp; omega)) (by simp [go_sem]) (by simp [go_sem]) (fun o => by simp [go_sem])
    clear qR0 qR1 fR
    have hzV : w1.heap.size ≤ V2.heap.size := by subst hV; first | exact Nat.le_refl _ | (simp; done) | (simp; omega)
    clear hV XR hc hg
    refine (HG1.out _).mono ?_
    rintro e2 w2 ⟨rfl, hbn⟩
    have hz2 := hbn.size
    have XE := YE.below hbn
    have XR := IBox.below YR hbn
    have hc := hcV.below hbn; have hg := bthen2 hbn hgV
    clear hcV hgV YE YR hbn
    have qE0 := XE.2.1 0 _ rfl; have qE1 := XE.2.1 1 _ rfl; have fE := XE.2.2; have lE := XE.1
    obtain ⟨zR0, qR0⟩ := XR.2.1 0 (by omega); obtain ⟨zR1, qR1⟩ := XR.2.1 1 (by omega); have fR := XR.2.2; have lR := XR.1
    go_wp2_with fail
    refine name_worldB (fun WF hWF => ?_)
    have FR : IBox WF (w.heap.size) 2 := by subst hWF; exact qa1
    have hGF : Below w.heap.size w WF := by subst hWF; exact qa8
    have PF : PtsR WF (.slice none 0 0) ([]) := by subst hWF; exact ⟨none, 0, rfl, by simp, by simp⟩
    clear hWF
    obtain ⟨x0, k0⟩ := FR.2.1 0 (by omega)
    obtain ⟨x1, k1⟩ := FR.2.1 1 (by omega)
    have kl := FR.1
    refine bodyPost_ret (v := .tuple #[.agg #[.int .i64 x0, .int .i64 x1], .slice none 0 0]) (by simp [results, Tryz.results37, go_sem, kl, k0, k1]) rfl ?_
    first | exact ⟨x0, x1, _, _, _, _, rfl, PF, hGF⟩ | exact ⟨x0, x1, _, _, _, rfl, ⟨_, PF⟩, hGF⟩
  case true =>
    have HG1 := Lib.hid (fun w => HG.out A B w); rw [hC] at HG1; have HT := Lib.hid (fun w => HTP.out A B hC w); clear hC HG HTP
    go_wp2_with fail
    refine name_worldC (fun V2 hV => ?_)
    have hcV : CurAt V2 (w.heap.size + 1) (0 + 60) := by subst hV; exact qa2
    have hgV : Below w.heap.size w V2 := by subst hV; exact qa8
    have hclt2 := hcV.lt
    have YR : IBox V2 (w.heap.size) 2 := by subst hV; exact qa1
    have YE : Box V2 (w1.heap.size) [.int .i64 A, .int .i64 B] := by subst hV; exact box_two (by first | omega | (simp; done) | (simp; omega)) (by simp [go_sem]) (by simp [go_sem]) (fun o => by simp [go_sem])
    clear qR0 qR1 fR
    have hzV : w1.heap.size ≤ V2.heap.size := by subst hV; first | exact Nat.le_refl _ | (simp; done) | (simp; omega)
    clear hV XR hc hg
    refine (HG1.out _).mono ?_
    rintro e2 w2 ⟨rfl, hbn⟩
    have hz2 := hbn.size
    have XE := YE.below hbn
    have XR := IBox.below YR hbn
    have hc := hcV.below hbn; have hg := bthen2 hbn hgV
    clear hcV hgV YE YR hbn
    have qE0 := XE.2.1 0 _ rfl; have qE1 := XE.2.1 1 _ rfl; have fE := XE.2.2; have lE := XE.1
    obtain ⟨zR0, qR0⟩ := XR.2.1 0 (by omega); obtain ⟨zR1, qR1⟩ := XR.2.1 1 (by omega); have fR := XR.2.2; have lR := XR.1
    go_wp2_with fail
    refine name_worldC (fun V3 hV => ?_)
    have hcV : CurAt V3 (w.heap.size + 1) (0 + 60) := by subst hV; exact qa2
    have hgV : Below w.heap.size w V3 := by subst hV; exact qa8
    have hclt3 := hcV.lt
    have YE : Box V3 (w1.heap.size) [.int .i64 A, .int .i64 B] := by subst hV; exact qa9
    have YR : IBox V3 (w.heap.size) 2 := by subst hV; exact qa1
    clear qE0 qE1 qR0 qR1 fE fR
    have hzV : w2.heap.size ≤ V3.heap.size := by subst hV; first | exact Nat.le_refl _ | (simp; done) | (simp; omega)
    clear hV XE XR hc hg
    refine (HT.out _).mono ?_
    rintro e3 w3 ⟨a4, l4, c4, rfl, OL, hbn⟩
    have hz3 := hbn.size
    have XE := YE.below hbn
    have XR := IBox.below YR hbn
    have hc := hcV.below hbn; have hg := bthen2 hbn hgV
    clear hcV hgV YE YR hbn
    have qE0 := XE.2.1 0 _ rfl; have qE1 := XE.2.1 1 _ rfl; have fE := XE.2.2; have lE := XE.1
    obtain ⟨zR0, qR0⟩ := XR.2.1 0 (by omega); obtain ⟨zR1, qR1⟩ := XR.2.1 1 (by omega); have fR := XR.2.2; have lR := XR.1
    obtain ⟨a9, c9, he9⟩ := OL.slice
    obtain ⟨rfl, rfl, rfl⟩ : a4 = a9 ∧ l4 = _ ∧ c4 = c9 := by simpa using he9
    obtain ⟨hl1, hl2⟩ := HLT.out A B
    clear he9 HT HLT HG1
    generalize tps A B = ps at *
    have hOLB : w1.heap.size + 1 ≤ V3.heap.size := by have := lE; omega
    go_wp2_with fail
    refine name_worldC (fun V4 hV => ?_)
    have hcV : CurAt V4 (w.heap.size + 1) (0 + 60) := by subst hV; exact qa2
    have hgV : Below w.heap.size w V4 := by subst hV; exact qa8
    have hclt4 := hcV.lt
    have YE : Box V4 (w1.heap.size) [.int .i64 A, .int .i64 B] := by subst hV; exact qa9
    have YR : IBox V4 (w.heap.size) 2 := by subst hV; exact qa1
    have OLV : OwnP V4 (V3.heap.size) (.slice a4 ps.length c4) (ps) := by subst hV; (repeat' (first | (with_reducible first | assumption | refine OwnP.alloc ?_ _)))
    clear qE0 qE1 qR0 qR1 fE fR
    have hzV : w3.heap.size ≤ V4.heap.size := by subst hV; first | exact Nat.le_refl _ | (simp; done) | (simp; omega)
    clear hV XE XR hc hg OL
    refine (pickC (K := 0 + 60) hcV (by omega) (by omega) (by omega)).mono ?_
    rintro e4 w4 ⟨r5, rfl, ra5, rb5, hcn, hgn⟩
    have hz4 := hgn.size
    have XE := YE.chg hgn (by show ¬ _ = _; omega)
    have XR := IBox.chg YR hgn (by show ¬ _ = _; omega)
    have OL := OLV.chgP hgn (by omega)
    have hc := hcn; have hg := bthenG hgn hgV (by omega) (by omega)
    clear hcV hgV YE YR OLV hcn hgn
    have qE0 := XE.2.1 0 _ rfl; have qE1 := XE.2.1 1 _ rfl; have fE := XE.2.2; have lE := XE.1
    obtain ⟨zR0, qR0⟩ := XR.2.1 0 (by omega); obtain ⟨zR1, qR1⟩ := XR.2.1 1 (by omega); have fR := XR.2.2; have lR := XR.1
    obtain ⟨-, g, rfl, hgB, hgl, px0, py0, pe0, hpe, p0, p1, p2⟩ := OL.at0 (n := 0) (by omega)
    obtain ⟨hcap1, hcap2⟩ := OL.cap
    have PT := OL.pts
    have hBw : V3.heap.size ≤ w4.heap.size := by omega
    by_cases hs0 : r5 = 0
    · subst hs0
      by_cases hc1 : c4 = 1
      · have hps1 : ps.length = 1 := by omega
        subst hc1
        rw [hps1] at *
        go_wp2_with fail
        refine name_worldB (fun WF hWF => ?_)
        have FR : IBox WF (w.heap.size) 2 := by subst hWF; exact qa1
        have hGF : Below w.heap.size w WF := by subst hWF; exact qa8
        have PF : PtsR WF (.slice (some ⟨g, 0, none⟩) 0 0) ([]) := by subst hWF; exact PtsR.nil0 _ _ _
        clear hWF
        obtain ⟨x0, k0⟩ := FR.2.1 0 (by omega)
        obtain ⟨x1, k1⟩ := FR.2.1 1 (by omega)
        have kl := FR.1
        refine bodyPost_ret (v := .tuple #[.agg #[.int .i64 x0, .int .i64 x1], .slice (some ⟨g, 0, none⟩) 0 0]) (by simp [results, Tryz.results37, go_sem, kl, k0, k1]) rfl ?_
        first | exact ⟨x0, x1, _, _, _, _, rfl, PF, hGF⟩ | exact ⟨x0, x1, _, _, _, rfl, ⟨_, PF⟩, hGF⟩
      · skip
        go_wp2_with fail
        refine name_worldB (fun WF hWF => ?_)
        have FR : IBox WF (w.heap.size) 2 := by subst hWF; exact qa1
        have hGF : Below w.heap.size w WF := by subst hWF; exact qa8
        have PF : PtsR WF (.slice (some ⟨g, 3, none⟩) (ps.length - 1) (c4 - 1)) (ps.drop 1) := by subst hWF; exact PtsR.drop1 (OwnP.pts (B := V3.heap.size) (by (repeat' (first | (with_reducible first | assumption | refine OwnP.set ?_ (by first | omega | (simp; omega) | (show _ < _; omega)) _ | refine OwnP.alloc ?_ _)))))
        clear hWF
        obtain ⟨x0, k0⟩ := FR.2.1 0 (by omega)
        obtain ⟨x1, k1⟩ := FR.2.1 1 (by omega)
        have kl := FR.1
        refine bodyPost_ret (v := .tuple #[.agg #[.int .i64 x0, .int .i64 x1], .slice (some ⟨g, 3, none⟩) (ps.length - 1) (c4 - 1)]) (by simp [results, Tryz.results37, go_sem, kl, k0, k1]) rfl ?_
        first | exact ⟨x0, x1, _, _, _, _, rfl, PF, hGF⟩ | exact ⟨x0, x1, _, _, _, rfl, ⟨_, PF⟩, hGF⟩
    · have hq0 : (r5 == 0) = false := by simpa using hs0
      by_cases hs1 : r5 = 1
      · subst hs1
        have kl1 : ((ps.length - 1 : Nat) : Int) = (ps.length : Int) - 1 := by omega
        have kl2 : ((ps.length : Int) - 1).toNat = ps.length - 1 := by omega
        go_wp2_with fail
        refine name_worldB (fun WF hWF => ?_)
        have FR : IBox WF (w.heap.size) 2 := by subst hWF; exact qa1
        have hGF : Below w.heap.size w WF := by subst hWF; exact qa8
        have PF : PtsR WF (.slice (some ⟨g, 0, none⟩) (ps.length - 1) c4) (ps.take (ps.length - 1)) := by subst hWF; exact PtsR.take1 (OwnP.pts (B := V3.heap.size) (by (repeat' (first | (with_reducible first | assumption | refine OwnP.set ?_ (by first | omega | (simp; omega) | (show _ < _; omega)) _ | refine OwnP.alloc ?_ _))))) (by omega)
        clear hWF
        obtain ⟨x0, k0⟩ := FR.2.1 0 (by omega)
        obtain ⟨x1, k1⟩ := FR.2.1 1 (by omega)
        have kl := FR.1
        refine bodyPost_ret (v := .tuple #[.agg #[.int .i64 x0, .int .i64 x1], .slice (some ⟨g, 0, none⟩) (ps.length - 1) c4]) (by simp [results, Tryz.results37, go_sem, kl, k0, k1]) rfl ?_
        first | exact ⟨x0, x1, _, _, _, _, rfl, PF, hGF⟩ | exact ⟨x0, x1, _, _, _, rfl, ⟨_, PF⟩, hGF⟩
      · have hq1 : (r5 == 1) = false := by simpa using hs1
        by_cases hs2 : r5 = 2
        · subst hs2
          clear PT
          go_wp2_with fail
          refine name_worldC (fun V5 hV => ?_)
          have hcV : CurAt V5 (w.heap.size + 1) (0 + 60 + 2) := by subst hV; exact qa2
          have hgV : Below w.heap.size w V5 := by subst hV; exact qa8
          have hclt5 := hcV.lt
          have YE : Box V5 (w1.heap.size) [.int .i64 A, .int .i64 B] := by subst hV; exact qa9
          have YR : IBox V5 (w.heap.size) 2 := by subst hV; exact qa1
          have OLV : OwnP V5 (V3.heap.size) (.slice (some ⟨g, 0, none⟩) ps.length c4) (ps) := by subst hV; (repeat' (first | (with_reducible first | assumption | refine OwnP.alloc ?_ _)))
          clear qE0 qE1 qR0 qR1 fE fR
          have hzV : w4.heap.size ≤ V5.heap.size := by subst hV; first | exact Nat.le_refl _ | (simp; done) | (simp; omega)
          clear hV XE XR hc hg OL
          refine (pointOnC (K := 0 + 60 + 2) hcV (by omega)).mono ?_
          rintro e5 w5 ⟨ux, uy, ue, rfl, hcn, hgn⟩
          have hz5 := hgn.size
          have XE := YE.chg hgn (by show ¬ _ = _; omega)
          have XR := IBox.chg YR hgn (by show ¬ _ = _; omega)
          have OL := OLV.chgP hgn (by omega)
          have hc := hcn; have hg := bthenG hgn hgV (by omega) (by omega)
          clear hcV hgV YE YR OLV hcn hgn
          have qE0 := XE.2.1 0 _ rfl; have qE1 := XE.2.1 1 _ rfl; have fE := XE.2.2; have lE := XE.1
          obtain ⟨zR0, qR0⟩ := XR.2.1 0 (by omega); obtain ⟨zR1, qR1⟩ := XR.2.1 1 (by omega); have fR := XR.2.2; have lR := XR.1
          have hBw : V3.heap.size ≤ w5.heap.size := by omega
          go_wp2_with (first | (at_builtin; refine wpl_appP rfl _ _ rfl (V3.heap.size) _ ps rfl (OL.alloc _) (w5.heap.size) 1 (ux, uy, ue) rfl (by simp) (by simp) (by simp) (by omega) (Below.alloc (Below.refl _ _) hBw _) (by have := hBw; simp; omega) ?_; intro a6 c6 w6 OL6 hB6 hz6; have XE6 := Box.belowL XE hB6 (by omega); have XR6 := IBox.belowL XR hB6 (by omega); have hg6 : Below w.heap.size w w6 := hg.trans (hB6.mono (by omega)); have r0 := XE6.2.1 0 _ rfl; have r1 := XE6.2.1 1 _ rfl; have rl := XE6.1; have rf := XE6.2.2; obtain ⟨y0, t0⟩ := XR6.2.1 0 (by omega); obtain ⟨y1, t1⟩ := XR6.2.1 1 (by omega); have tf := XR6.2.2; have tl := XR6.1))
          refine name_worldB (fun WF hWF => ?_)
          have FR : IBox WF (w.heap.size) 2 := by subst hWF; exact qa1
          have hGF : Below w.heap.size w WF := by subst hWF; exact qa8
          have PF : PtsR WF (.slice a6 (ps.length + 1) c6) (ps ++ [(ux, uy, ue)]) := by subst hWF; exact OwnP.pts (B := V3.heap.size) (by (repeat' (first | (with_reducible first | assumption | refine OwnP.set ?_ (by first | omega | (simp; omega) | (show _ < _; omega)) _ | refine OwnP.alloc ?_ _))))
          clear hWF
          obtain ⟨x0, k0⟩ := FR.2.1 0 (by omega)
          obtain ⟨x1, k1⟩ := FR.2.1 1 (by omega)
          have kl := FR.1
          refine bodyPost_ret (v := .tuple #[.agg #[.int .i64 x0, .int .i64 x1], .slice a6 (ps.length + 1) c6]) (by simp [results, Tryz.results37, go_sem, kl, k0, k1]) rfl ?_
          first | exact ⟨x0, x1, _, _, _, _, rfl, PF, hGF⟩ | exact ⟨x0, x1, _, _, _, rfl, ⟨_, PF⟩, hGF⟩
        · have hq2 : (r5 == 2) = false := by simpa using hs2
          by_cases hs3 : r5 = 3
          · subst hs3
            go_wp2_with (first | (at_builtin; refine wpl_appP rfl _ _ rfl (V3.heap.size) _ ps rfl (OL.alloc _) (w4.heap.size) 1 (1, 1, 1) rfl (by simp) (by simp) (by simp) (by omega) (Below.alloc (Below.refl _ _) hBw _) (by have := hBw; simp; omega) ?_; intro a6 c6 w6 OL6 hB6 hz6; have XE6 := Box.belowL XE hB6 (by omega); have XR6 := IBox.belowL XR hB6 (by omega); have hg6 : Below w.heap.size w w6 := hg.trans (hB6.mono (by omega)); have r0 := XE6.2.1 0 _ rfl; have r1 := XE6.2.1 1 _ rfl; have rl := XE6.1; have rf := XE6.2.2; obtain ⟨y0, t0⟩ := XR6.2.1 0 (by omega); obtain ⟨y1, t1⟩ := XR6.2.1 1 (by omega); have tf := XR6.2.2; have tl := XR6.1))
            refine name_worldB (fun WF hWF => ?_)
            have FR : IBox WF (w.heap.size) 2 := by subst hWF; exact qa1
            have hGF : Below w.heap.size w WF := by subst hWF; exact qa8
            have PF : PtsR WF (.slice a6 (ps.length + 1) c6) (ps ++ [(1, 1, 1)]) := by subst hWF; exact OwnP.pts (B := V3.heap.size) (by (repeat' (first | (with_reducible first | assumption | refine OwnP.set ?_ (by first | omega | (simp; omega) | (show _ < _; omega)) _ | refine OwnP.alloc ?_ _))))
            clear hWF
            obtain ⟨x0, k0⟩ := FR.2.1 0 (by omega)
            obtain ⟨x1, k1⟩ := FR.2.1 1 (by omega)
            have kl := FR.1
            refine bodyPost_ret (v := .tuple #[.agg #[.int .i64 x0, .int .i64 x1], .slice a6 (ps.length + 1) c6]) (by simp [results, Tryz.results37, go_sem, kl, k0, k1]) rfl ?_
            first | exact ⟨x0, x1, _, _, _, _, rfl, PF, hGF⟩ | exact ⟨x0, x1, _, _, _, rfl, ⟨_, PF⟩, hGF⟩
          · have hq3 : (r5 == 3) = false := by simpa using hs3
            by_cases hs4 : r5 = 4
            · subst hs4
              clear PT
              go_wp2_with fail
              refine name_worldC (fun V5 hV => ?_)
              have hcV : CurAt V5 (w.heap.size + 1) (0 + 60 + 2) := by subst hV; exact qa2
              have hgV : Below w.heap.size w V5 := by subst hV; exact qa8
              have hclt5 := hcV.lt
              have YE : Box V5 (w1.heap.size) [.int .i64 A, .int .i64 B] := by subst hV; exact qa9
              have YR : IBox V5 (w.heap.size) 2 := by subst hV; exact qa1
              have OLV : OwnP V5 (V3.heap.size) (.slice (some ⟨g, 0, none⟩) ps.length c4) (ps) := by subst hV; (repeat' (first | (with_reducible first | assumption | refine OwnP.alloc ?_ _)))
              clear qE0 qE1 qR0 qR1 fE fR
              have hzV : w4.heap.size ≤ V5.heap.size := by subst hV; first | exact Nat.le_refl _ | (simp; done) | (simp; omega)
              clear hV XE XR hc hg OL
              refine (pickC (K := 0 + 60 + 2) hcV (by omega) (by omega) (by omega)).mono ?_
              rintro e5 w5 ⟨r8, rfl, ra8, rb8, hcn, hgn⟩
              have hz5 := hgn.size
              have XE := YE.chg hgn (by show ¬ _ = _; omega)
              have XR := IBox.chg YR hgn (by show ¬ _ = _; omega)
              have OL := OLV.chgP hgn (by omega)
              have hc := hcn; have hg := bthenG hgn hgV (by omega) (by omega)
              clear hcV hgV YE YR OLV hcn hgn
              have qE0 := XE.2.1 0 _ rfl; have qE1 := XE.2.1 1 _ rfl; have fE := XE.2.2; have lE := XE.1
              obtain ⟨zR0, qR0⟩ := XR.2.1 0 (by omega); obtain ⟨zR1, qR1⟩ := XR.2.1 1 (by omega); have fR := XR.2.2; have lR := XR.1
              have hBw : V3.heap.size ≤ w5.heap.size := by omega
              go_wp2_with fail
              clear qE0 qE1 qR0 qR1 fE fR
              go_loopw [6] (fun v6 wr => ∃ L : List P3, 1 ≤ L.length ∧ L.length ≤ 20020 ∧ OwnP wr (V3.heap.size) v6 L ∧ Below (V3.heap.size) w5 wr) (fun v6 _ => 20020 - lenV v6)
              case atStart => exact ⟨ps, hl1, by omega, OL, Below.refl _ _⟩
              case round =>
                obtain ⟨L, hL1, hL2, OQ, hBL⟩ := hrel
                obtain ⟨aq, cq, rfl⟩ := OQ.slice
                have hzL := hBL.size
                have hgL : Below w.heap.size w wr := hg.trans (hBL.mono (by omega))
                have YE := Box.belowL XE hBL (by omega); have YR := IBox.belowL XR hBL (by omega)
                by_cases hlt : (L.length : Int) < 16 + r8
                case pos =>
                  obtain ⟨-, gq, rfl, hgqB, hgql, vx, vy, ve, -, p0, p1, p2⟩ := OQ.at0 (n := 0) (by omega)
                  simp only [Nat.zero_mul, Nat.zero_add] at p0 p1 p2
                  go_wp2_with (first | (at_builtin; refine wpl_appP rfl _ _ rfl (V3.heap.size) _ L rfl (OQ.alloc _) (wr.heap.size) 1 (vx, vy, ve) rfl (by simp) (by simp) (by simp) (by omega) (Below.alloc hBL (by omega) _) (by simp; omega) ?_; intro a6 c6 w6 OL6 hB6 hz6))
                  go_roundw
                  case rel => exact ⟨L ++ [(vx, vy, ve)], by simp, by simp; omega, by simpa using OL6, hB6⟩
                  case measure => simp [lenV]; omega
                case neg =>
                  have r0 := YE.2.1 0 _ rfl; have r1 := YE.2.1 1 _ rfl; have rl := YE.1; have rf := YE.2.2; obtain ⟨y0, t0⟩ := YR.2.1 0 (by omega); obtain ⟨y1, t1⟩ := YR.2.1 1 (by omega); have tf := YR.2.2; have tl := YR.1
                  go_wp2_with fail
                  refine name_worldB (fun WF hWF => ?_)
                  have FR : IBox WF (w.heap.size) 2 := by subst hWF; exact qa1
                  have hGF : Below w.heap.size w WF := by subst hWF; exact qa8
                  have PF : PtsR WF (.slice aq L.length cq) (L) := by subst hWF; exact OwnP.pts (B := V3.heap.size) (by (repeat' (first | (with_reducible first | assumption | refine OwnP.set ?_ (by first | omega | (simp; omega) | (show _ < _; omega)) _ | refine OwnP.alloc ?_ _))))
                  clear hWF
                  obtain ⟨x0, k0⟩ := FR.2.1 0 (by omega)
                  obtain ⟨x1, k1⟩ := FR.2.1 1 (by omega)
                  have kl := FR.1
                  refine bodyPost_ret (v := .tuple #[.agg #[.int .i64 x0, .int .i64 x1], .slice aq L.length cq]) (by simp [results, Tryz.results37, go_sem, kl, k0, k1]) rfl ?_
                  first | exact ⟨x0, x1, _, _, _, _, rfl, PF, hGF⟩ | exact ⟨x0, x1, _, _, _, rfl, ⟨_, PF⟩, hGF⟩
            · have hq4 : (r5 == 4) = false := by simpa using hs4
              go_wp2_with fail
              refine name_worldB (fun WF hWF => ?_)
              have FR : IBox WF (w.heap.size) 2 := by subst hWF; exact qa1
              have hGF : Below w.heap.size w WF := by subst hWF; exact qa8
              have PF : PtsR WF (.slice (some ⟨g, 0, none⟩) ps.length c4) (ps) := by subst hWF; exact OwnP.pts (B := V3.heap.size) (by (repeat' (first | (with_reducible first | assumption | refine OwnP.set ?_ (by first | omega | (simp; omega) | (show _ < _; omega)) _ | refine OwnP.alloc ?_ _))))
              clear hWF
              obtain ⟨x0, k0⟩ := FR.2.1 0 (by omega)
              obtain ⟨x1, k1⟩ := FR.2.1 1 (by omega)
              have kl := FR.1
              refine bodyPost_ret (v := .tuple #[.agg #[.int .i64 x0, .int .i64 x1], .slice (some ⟨g, 0, none⟩) ps.length c4]) (by simp [results, Tryz.results37, go_sem, kl, k0, k1]) rfl ?_
              first | exact ⟨x0, x1, _, _, _, _, rfl, PF, hGF⟩ | exact ⟨x0, x1, _, _, _, rfl, ⟨_, PF⟩, hGF⟩
end Go.Proofs.YtjgdajeoeagggaaGreat
