import Derived.Test.YtjgdajeoeagggaaGreatZDrA
import Derived.Test.YtjgdajeoeagggaaGreatZMlA
import Derived.Test.YtjgdajeoeagggaaGreatZRegX
set_option linter.unusedSimpArgs false
set_option linter.unusedVariables false
namespace Go.Proofs.YtjgdajeoeagggaaGreat
open Go.RowKit
/-! ### drawn points -/
theorem Byts.mono {w : World} {b c : Nat} {v : Value} (h : Byts w b v) (hb : b ≤ c) : Byts w c v := by
  obtain ⟨a, len, cap, hv, hl, hc⟩ := h
  refine ⟨a, len, cap, hv, hl, fun i hi => ?_⟩
  obtain ⟨g, off, z, h1, h2, h3⟩ := hc i hi
  exact ⟨g, off, z, h1, by omega, h3⟩
def GD6 (w : World) (e : Ending) (w' : World) : Prop := ∃ a b x y t n : Int, e = .returned (.tuple #[.agg #[.int .i64 a, .int .i64 b], .agg #[.int .i64 x, .int .i64 y, .int .i64 t], .int .i64 n]) ∧ Below w.heap.size w w'
def GD5 (w : World) (e : Ending) (w' : World) : Prop := ∃ a b x y t : Int, e = .returned (.tuple #[.agg #[.int .i64 a, .int .i64 b], .agg #[.int .i64 x, .int .i64 y, .int .i64 t]]) ∧ Below w.heap.size w w'
def GRP (b K : Nat) (w : World) (e : Ending) (w' : World) : Prop := ∃ A B x y t : Int, e = .returned (.tuple #[.agg #[.int .i64 A, .int .i64 B], .agg #[.int .i64 x, .int .i64 y, .int .i64 t]]) ∧ isC A B = true ∧ EC.PV A B (x, y, t) ∧ CurAt w' b K ∧ ChgS (fun k => k = b) w w'
def GR5 (b K : Nat) (w : World) (e : Ending) (w' : World) : Prop := ∃ A B x y t : Int, e = .returned (.tuple #[.agg #[.int .i64 A, .int .i64 B], .agg #[.int .i64 x, .int .i64 y, .int .i64 t]]) ∧ CurAt w' b K ∧ ChgS (fun k => k = b) w w'
theorem ChgS.cellB {S : Nat → Prop} {w w' : World} (h : ChgS S w w') {k o : Nat} (hk : k < w.heap.size) (hs : ¬ S k) : w'.cell? ⟨k, o, none⟩ = w.cell? ⟨k, o, none⟩ := World.cell?_of_block (w := w) (w' := w') (a := ⟨k, o, none⟩) (h.block k hk hs)
theorem Box.drewR {w : World} {b : Nat} {vs : List Value} (h : Box w b vs) : Box w.drew b vs := Box.drewN h 1
theorem IBox.box2 {W : World} {g : Nat} (h : IBox W g 2) : ∃ z0 z1 : Int, Box W g [.int .i64 z0, .int .i64 z1] := by
  obtain ⟨z0, h0⟩ := h.2.1 0 (by omega); obtain ⟨z1, h1⟩ := h.2.1 1 (by omega)
  exact ⟨z0, z1, box_two h.1 h0 h1 h.2.2⟩
theorem IBox.box3 {W : World} {g : Nat} (h : IBox W g 3) : ∃ z0 z1 z2 : Int, Box W g [.int .i64 z0, .int .i64 z1, .int .i64 z2] := by
  obtain ⟨z0, h0⟩ := h.2.1 0 (by omega); obtain ⟨z1, h1⟩ := h.2.1 1 (by omega); obtain ⟨z2, h2⟩ := h.2.1 2 (by omega)
  exact ⟨z0, z1, z2, box_three h.1 h0 h1 h2 h.2.2⟩
theorem set0of2 {w : World} {b : Nat} {x y u : Value} (h : Box w b [x, y]) : Box (w.setCell ⟨b, 0, none⟩ u) b [u, y] := Box.set h 0 (by simp) u
theorem set1of2 {w : World} {b : Nat} {x y u : Value} (h : Box w b [x, y]) : Box (w.setCell ⟨b, 1, none⟩ u) b [x, u] := Box.set h 1 (by simp) u
theorem set0of3 {w : World} {b : Nat} {x y t u : Value} (h : Box w b [x, y, t]) : Box (w.setCell ⟨b, 0, none⟩ u) b [u, y, t] := Box.set h 0 (by simp) u
theorem set1of3 {w : World} {b : Nat} {x y t u : Value} (h : Box w b [x, y, t]) : Box (w.setCell ⟨b, 1, none⟩ u) b [x, u, t] := Box.set h 1 (by simp) u
theorem set2of3 {w : World} {b : Nat} {x y t u : Value} (h : Box w b [x, y, t]) : Box (w.setCell ⟨b, 2, none⟩ u) b [x, y, u] := Box.set h 2 (by simp) u
theorem cell_ne {w : World} {p q : Addr} (hq : q.block < w.heap.size) (hp : p.block ≠ q.block) (u v : Value) (h : w.cell? q = some v) : (w.setCell p u).cell? q = some v := by
  have ho := only_setCell w p u
  have hb := ho.block q.block hq (fun e => hp (Option.some.inj e).symm)
  exact (World.cell?_of_block (w := w) (w' := w.setCell p u) hb).trans h
theorem cell_drew {w : World} {q : Addr} {v : Value} (h : w.cell? q = some v) : w.drew.cell? q = some v := h
theorem PV_pt {A B x y t : Int} (h1 : -10000 ≤ x) (h2 : x ≤ 10000) (h3 : 1 ≤ t) (h4 : t ≤ 20) (h5 : Int.gcd x t = 1) (h6 : y * y = cvI A B x t) : EC.PV A B (x, y, t) := .inr ⟨h1, h2, h3, h4, h5, h6⟩
set_option maxRecDepth 100000 in
set_option maxHeartbeats 100000000 in
theorem pointedC {b K : Nat} {w : World} (h : CurAt w b K) (hK : K ≤ 1000000) : Calls Tryz.prog 106 #[.pointer (some ⟨b, 0, none⟩)] w (GRP b (K + 10) w) := by
  have hblt := h.lt
  unfold GRP
  go_enter Tryz.func106, Tryz.ntmps106
  go_wp2_with fail
  refine (pickC (K := K) ?_ ?_ ?_ ?_).mono ?_
  · exact qa2
  · omega
  · omega
  · omega
  rintro e1 w1 ⟨r1, rfl, ra1, rb1, hc1, hg1⟩
  have hz1 := hg1.size
  (try simp only [wz1, wz2, wz3, wz4] at hz1)
  have XR_1 : IBox w1 (w.heap.size) 2 := by
    refine IBox.chg ?_ hg1 (by show ¬ _ = _; omega)
    exact qa12
  have XS_1 : IBox w1 (w.heap.size + 1) 3 := by
    refine IBox.chg ?_ hg1 (by show ¬ _ = _; omega)
    exact qa12
  obtain ⟨zR0_1, qR0_1⟩ := XR_1.2.1 0 (by omega)
  obtain ⟨zR1_1, qR1_1⟩ := XR_1.2.1 1 (by omega)
  have fR_1 := XR_1.2.2; have lR_1 := XR_1.1
  obtain ⟨zS0_1, qS0_1⟩ := XS_1.2.1 0 (by omega)
  obtain ⟨zS1_1, qS1_1⟩ := XS_1.2.1 1 (by omega)
  obtain ⟨zS2_1, qS2_1⟩ := XS_1.2.1 2 (by omega)
  have fS_1 := XS_1.2.2; have lS_1 := XS_1.1
  by_cases hs1_0 : r1 = 0
  · subst hs1_0
    go_wp2_with fail
    refine name_worldC (fun V2 hV2 => ?_)
    have hcV : CurAt V2 b (K + 2) := by subst hV2; exact qa2
    have hgV : ChgS (fun k => k = b) w V2 := by subst hV2; exact qa13
    have YR : IBox V2 (w.heap.size) 2 := by subst hV2; exact qa12
    have YS : IBox V2 (w.heap.size + 1) 3 := by subst hV2; exact qa12
    have hsV : w1.heap.size + 1 < V2.heap.size := by subst hV2; simp
    have HV := Lib.hid hV2; clear hV2
    refine (pickC (K := K + 2) hcV (by omega) (by omega) (by omega)).mono ?_
    rintro e2 w2 ⟨r2, rfl, ra2, rb2, hc2, hg2⟩
    have hz2 := hg2.size
    have XR_2 : IBox w2 (w.heap.size) 2 := IBox.chg YR hg2 (by show ¬ _ = _; omega)
    have XS_2 : IBox w2 (w.heap.size + 1) 3 := IBox.chg YS hg2 (by show ¬ _ = _; omega)
    clear qR0_1 qR1_1 fR_1 XR_1 qS0_1 qS1_1 qS2_1 fS_1 XS_1
    clear hc1
    have hgw : ChgS (fun k => k = b) w w2 := hgV.trans hg2
    obtain ⟨zR0_2, qR0_2⟩ := XR_2.2.1 0 (by omega)
    obtain ⟨zR1_2, qR1_2⟩ := XR_2.2.1 1 (by omega)
    have fR_2 := XR_2.2.2; have lR_2 := XR_2.1
    obtain ⟨zS0_2, qS0_2⟩ := XS_2.2.1 0 (by omega)
    obtain ⟨zS1_2, qS1_2⟩ := XS_2.2.1 1 (by omega)
    obtain ⟨zS2_2, qS2_2⟩ := XS_2.2.1 2 (by omega)
    have fS_2 := XS_2.2.2; have lS_2 := XS_2.1
    clear hcV hgV YR YS
    have HL : ∃ A B x y t : Int, w2.cell? ⟨w1.heap.size, r2.toNat * 2, none⟩ = some (.int .i64 A) ∧ w2.cell? ⟨w1.heap.size, r2.toNat * 2 + 1, none⟩ = some (.int .i64 B) ∧ w2.cell? ⟨w1.heap.size + 1, r2.toNat * 3, none⟩ = some (.int .i64 x) ∧ w2.cell? ⟨w1.heap.size + 1, r2.toNat * 3 + 1, none⟩ = some (.int .i64 y) ∧ w2.cell? ⟨w1.heap.size + 1, r2.toNat * 3 + 2, none⟩ = some (.int .i64 t) ∧ isC A B = true ∧ EC.PV A B (x, y, t) := by
      rcases (show r2 = 0 ∨ r2 = 1 ∨ r2 = 2 ∨ r2 = 3 ∨ r2 = 4 ∨ r2 = 5 by omega) with rfl | rfl | rfl | rfl | rfl | rfl
      · exact ⟨0, 4, 0, 2, 1, (hg2.cellB (by omega) (by show ¬ _ = _; omega)).trans (by rw [HV.out]; simp), (hg2.cellB (by omega) (by show ¬ _ = _; omega)).trans (by rw [HV.out]; simp), (hg2.cellB (by omega) (by show ¬ _ = _; omega)).trans (by rw [HV.out]; simp), (hg2.cellB (by omega) (by show ¬ _ = _; omega)).trans (by rw [HV.out]; simp), (hg2.cellB (by omega) (by show ¬ _ = _; omega)).trans (by rw [HV.out]; simp), by decide +kernel, PV_pt (by decide) (by decide) (by decide) (by decide) (by decide +kernel) (by decide +kernel)⟩
      · exact ⟨0, 1, 2, 3, 1, (hg2.cellB (by omega) (by show ¬ _ = _; omega)).trans (by rw [HV.out]; simp), (hg2.cellB (by omega) (by show ¬ _ = _; omega)).trans (by rw [HV.out]; simp), (hg2.cellB (by omega) (by show ¬ _ = _; omega)).trans (by rw [HV.out]; simp), (hg2.cellB (by omega) (by show ¬ _ = _; omega)).trans (by rw [HV.out]; simp), (hg2.cellB (by omega) (by show ¬ _ = _; omega)).trans (by rw [HV.out]; simp), by decide +kernel, PV_pt (by decide) (by decide) (by decide) (by decide) (by decide +kernel) (by decide +kernel)⟩
      · exact ⟨4, 0, 2, 4, 1, (hg2.cellB (by omega) (by show ¬ _ = _; omega)).trans (by rw [HV.out]; simp), (hg2.cellB (by omega) (by show ¬ _ = _; omega)).trans (by rw [HV.out]; simp), (hg2.cellB (by omega) (by show ¬ _ = _; omega)).trans (by rw [HV.out]; simp), (hg2.cellB (by omega) (by show ¬ _ = _; omega)).trans (by rw [HV.out]; simp), (hg2.cellB (by omega) (by show ¬ _ = _; omega)).trans (by rw [HV.out]; simp), by decide +kernel, PV_pt (by decide) (by decide) (by decide) (by decide) (by decide +kernel) (by decide +kernel)⟩
      · exact ⟨(-1), 0, 1, 0, 1, (hg2.cellB (by omega) (by show ¬ _ = _; omega)).trans (by rw [HV.out]; simp), (hg2.cellB (by omega) (by show ¬ _ = _; omega)).trans (by rw [HV.out]; simp), (hg2.cellB (by omega) (by show ¬ _ = _; omega)).trans (by rw [HV.out]; simp), (hg2.cellB (by omega) (by show ¬ _ = _; omega)).trans (by rw [HV.out]; simp), (hg2.cellB (by omega) (by show ¬ _ = _; omega)).trans (by rw [HV.out]; simp), by decide +kernel, PV_pt (by decide) (by decide) (by decide) (by decide) (by decide +kernel) (by decide +kernel)⟩
      · exact ⟨(-43), 166, 3, 8, 1, (hg2.cellB (by omega) (by show ¬ _ = _; omega)).trans (by rw [HV.out]; simp), (hg2.cellB (by omega) (by show ¬ _ = _; omega)).trans (by rw [HV.out]; simp), (hg2.cellB (by omega) (by show ¬ _ = _; omega)).trans (by rw [HV.out]; simp), (hg2.cellB (by omega) (by show ¬ _ = _; omega)).trans (by rw [HV.out]; simp), (hg2.cellB (by omega) (by show ¬ _ = _; omega)).trans (by rw [HV.out]; simp), by decide +kernel, PV_pt (by decide) (by decide) (by decide) (by decide) (by decide +kernel) (by decide +kernel)⟩
      · exact ⟨0, (-432), 12, 36, 1, (hg2.cellB (by omega) (by show ¬ _ = _; omega)).trans (by rw [HV.out]; simp), (hg2.cellB (by omega) (by show ¬ _ = _; omega)).trans (by rw [HV.out]; simp), (hg2.cellB (by omega) (by show ¬ _ = _; omega)).trans (by rw [HV.out]; simp), (hg2.cellB (by omega) (by show ¬ _ = _; omega)).trans (by rw [HV.out]; simp), (hg2.cellB (by omega) (by show ¬ _ = _; omega)).trans (by rw [HV.out]; simp), by decide +kernel, PV_pt (by decide) (by decide) (by decide) (by decide) (by decide +kernel) (by decide +kernel)⟩
    obtain ⟨A, B, x, y, t, x0, x1, x2, x3, x4, hCC, hPP⟩ := HL
    obtain ⟨zr0, zr1, BR0⟩ := IBox.box2 XR_2
    obtain ⟨zs0, zs1, zs2, BS0⟩ := IBox.box3 XS_2
    have kg : w1.heap.size + 1 < w2.heap.size := by omega
    obtain ⟨n, rfl⟩ : ∃ n : Nat, r2 = n := ⟨r2.toNat, by omega⟩
    have hn : n < 6 := by omega
    have hn0 : (0 : Int) ≤ (n : Int) := by omega
    have hn6 : (n : Int) < 6 := by omega
    simp only [Int.toNat_natCast] at x0 x1 x2 x3 x4
    clear HV hg2
    go_wp2_with fail
    refine wp_region_x (fun w' => w'.cell? ⟨w1.heap.size, n * 2, none⟩ = some (.int .i64 A) ∧ w'.cell? ⟨w1.heap.size, n * 2 + 1, none⟩ = some (.int .i64 B) ∧ w'.cell? ⟨w1.heap.size + 1, n * 3, none⟩ = some (.int .i64 x) ∧ w'.cell? ⟨w1.heap.size + 1, n * 3 + 1, none⟩ = some (.int .i64 y) ∧ w'.cell? ⟨w1.heap.size + 1, n * 3 + 2, none⟩ = some (.int .i64 t)) (fun i => decide (i < 9)) (by kernel_rfl) ?_ (fun hHeld => ?_)
    focus ((try dsimp only); (refine ⟨?_, ?_, ?_, ?_, ?_⟩ <;> (repeat' (first | assumption | (with_reducible first | refine cell_drew ?_ | refine cell_ne ?_ ?_ _ _ ?_) | omega | (simp; done) | (simp; omega)))))
    refine wtk (v := ?_) 0 rfl ?_ (by assumption) ?_
    rotate_left
    focus (intro w hSw; (try dsimp only at hSw); go_simp; (try with_reducible rfl))
    (try simp only [Act.put, wz5, wz6, wz7])
    refine wtk (v := ?_) 1 rfl ?_ (by assumption) ?_
    rotate_left
    focus (intro w hSw; (try dsimp only at hSw); go_simp; (try with_reducible rfl))
    (try simp only [Act.put, wz5, wz6, wz7])
    refine wtk (v := ?_) 2 rfl ?_ (by assumption) ?_
    rotate_left
    focus (intro w hSw; (try dsimp only at hSw); go_simp; (try with_reducible rfl))
    (try simp only [Act.put, wz5, wz6, wz7])
    refine wtk (v := ?_) 3 rfl ?_ (by assumption) ?_
    rotate_left
    focus (intro w hSw; (try dsimp only at hSw); go_simp; (try with_reducible rfl))
    (try simp only [Act.put, wz5, wz6, wz7])
    refine wtk (v := ?_) 4 rfl ?_ (by assumption) ?_
    rotate_left
    focus (intro w hSw; (try dsimp only at hSw); go_simp; (try with_reducible rfl))
    (try simp only [Act.put, wz5, wz6, wz7])
    refine wtk (v := ?_) 5 rfl ?_ (by assumption) ?_
    rotate_left
    focus (intro w hSw; (try dsimp only at hSw); go_simp; (try with_reducible rfl))
    (try simp only [Act.put, wz5, wz6, wz7])
    refine wtk (v := ?_) 6 rfl ?_ (by assumption) ?_
    rotate_left
    focus (intro w hSw; (try dsimp only at hSw); go_simp; (try with_reducible rfl))
    (try simp only [Act.put, wz5, wz6, wz7])
    refine wtk (v := ?_) 7 rfl ?_ (by assumption) ?_
    rotate_left
    focus (intro w hSw; (try dsimp only at hSw); go_simp; (try with_reducible rfl))
    (try simp only [Act.put, wz5, wz6, wz7])
    refine wpAnyX_one 8 rfl (by kernel_rfl) (fun K hK => ?_)
    go_simp
    clear hHeld
    refine hK.out _ _ ?_ (fun hHeld => ?_)
    focus ((try dsimp only); (refine ⟨?_, ?_, ?_, ?_, ?_⟩ <;> (repeat' (first | assumption | (with_reducible first | refine cell_drew ?_ | refine cell_ne ?_ ?_ _ _ ?_) | omega | (simp; done) | (simp; omega)))))
    clear hK K
    (try simp only [Act.put, wz5, wz6, wz7])
    refine wpAnyX_last (D := fun i => decide (i < 9)) 9 rfl (by kernel_rfl) (by rfl) (fun K hK => ?_)
    go_simp
    refine hK.out _ _ ?_
    clear hK K
    (try simp only [Act.put, wz5, wz6, wz7])
    refine wpAnyX_done (by kernel_rfl) ?_ _
    refine NoPanic.normal ?_
    go_wp2_with fail
    have hc9 : CurAt w2 b (K + 2 + 2) := hc2
    refine name_worldB (fun WF hWF => ?_)
    have BR : Box WF (w.heap.size) [.int .i64 A, .int .i64 B] := by subst hWF; exact qa7
    have BS : Box WF (w.heap.size + 1) [.int .i64 x, .int .i64 y, .int .i64 t] := by subst hWF; exact qa7
    have hCF : CurAt WF b (K + 2 + 2) := by subst hWF; exact qa2
    have hGF : ChgS (fun k => k = b) w WF := by subst hWF; exact qa13
    clear hWF
    have u0 := BR.2.1 0 _ rfl; have u1 := BR.2.1 1 _ rfl; have v0 := BS.2.1 0 _ rfl; have v1 := BS.2.1 1 _ rfl; have v2 := BS.2.1 2 _ rfl; have ul := BR.1; have vl := BS.1
    refine bodyPost_ret (v := .tuple #[.agg #[.int .i64 A, .int .i64 B], .agg #[.int .i64 x, .int .i64 y, .int .i64 t]]) (by simp [results, Tryz.results106, go_sem, ul, vl, u0, u1, v0, v1, v2]) rfl ?_
    exact ⟨_, _, _, _, _, rfl, hCC, hPP, hCF.mono (by omega), hGF⟩
  · have hq1_0 : (r1 == 0) = false := by simpa using hs1_0
    by_cases hs1_1 : r1 = 1
    · subst hs1_1
      obtain ⟨zr0, zr1, BR0⟩ := IBox.box2 XR_1
      obtain ⟨zs0, zs1, zs2, BS0⟩ := IBox.box3 XS_1
      go_wp2_with fail
      refine name_worldB (fun WF hWF => ?_)
      have BR : Box WF (w.heap.size) [.int .i64 (-16), .int .i64 16] := by subst hWF; exact qa7
      have BS : Box WF (w.heap.size + 1) [.int .i64 0, .int .i64 4, .int .i64 1] := by subst hWF; exact qa7
      have hCF : CurAt WF b (K + 2) := by subst hWF; exact qa2
      have hGF : ChgS (fun k => k = b) w WF := by subst hWF; exact qa13
      clear hWF
      have u0 := BR.2.1 0 _ rfl; have u1 := BR.2.1 1 _ rfl; have v0 := BS.2.1 0 _ rfl; have v1 := BS.2.1 1 _ rfl; have v2 := BS.2.1 2 _ rfl; have ul := BR.1; have vl := BS.1
      refine bodyPost_ret (v := .tuple #[.agg #[.int .i64 (-16), .int .i64 16], .agg #[.int .i64 0, .int .i64 4, .int .i64 1]]) (by simp [results, Tryz.results106, go_sem, ul, vl, u0, u1, v0, v1, v2]) rfl ?_
      exact ⟨_, _, _, _, _, rfl, by decide +kernel, PV_pt (by decide) (by decide) (by decide) (by decide) (by decide +kernel) (by decide +kernel), hCF.mono (by omega), hGF⟩
    · have hq1_1 : (r1 == 1) = false := by simpa using hs1_1
      by_cases hs1_2 : r1 = 2
      · subst hs1_2
        obtain ⟨zr0, zr1, BR0⟩ := IBox.box2 XR_1
        obtain ⟨zs0, zs1, zs2, BS0⟩ := IBox.box3 XS_1
        go_wp2_with fail
        refine name_worldB (fun WF hWF => ?_)
        have BR : Box WF (w.heap.size) [.int .i64 (-25), .int .i64 0] := by subst hWF; exact qa7
        have BS : Box WF (w.heap.size + 1) [.int .i64 (-4), .int .i64 6, .int .i64 1] := by subst hWF; exact qa7
        have hCF : CurAt WF b (K + 2) := by subst hWF; exact qa2
        have hGF : ChgS (fun k => k = b) w WF := by subst hWF; exact qa13
        clear hWF
        have u0 := BR.2.1 0 _ rfl; have u1 := BR.2.1 1 _ rfl; have v0 := BS.2.1 0 _ rfl; have v1 := BS.2.1 1 _ rfl; have v2 := BS.2.1 2 _ rfl; have ul := BR.1; have vl := BS.1
        refine bodyPost_ret (v := .tuple #[.agg #[.int .i64 (-25), .int .i64 0], .agg #[.int .i64 (-4), .int .i64 6, .int .i64 1]]) (by simp [results, Tryz.results106, go_sem, ul, vl, u0, u1, v0, v1, v2]) rfl ?_
        exact ⟨_, _, _, _, _, rfl, by decide +kernel, PV_pt (by decide) (by decide) (by decide) (by decide) (by decide +kernel) (by decide +kernel), hCF.mono (by omega), hGF⟩
      · have hq1_2 : (r1 == 2) = false := by simpa using hs1_2
        go_wp2_with fail
        refine (pickC (K := K + 2) ?_ ?_ ?_ ?_).mono ?_
        · exact qa2
        · omega
        · omega
        · omega
        rintro e2 w2 ⟨r2, rfl, ra2, rb2, hc2, hg2⟩
        have hz2 := hg2.size
        (try simp only [wz1, wz2, wz3, wz4] at hz2)
        have XR_2 : IBox w2 (w.heap.size) 2 := by
          refine IBox.chg ?_ hg2 (by show ¬ _ = _; omega)
          exact qa12
        have XS_2 : IBox w2 (w.heap.size + 1) 3 := by
          refine IBox.chg ?_ hg2 (by show ¬ _ = _; omega)
          exact qa12
        clear qR0_1 qR1_1 fR_1 XR_1 qS0_1 qS1_1 qS2_1 fS_1 XS_1
        clear hc1
        obtain ⟨zR0_2, qR0_2⟩ := XR_2.2.1 0 (by omega)
        obtain ⟨zR1_2, qR1_2⟩ := XR_2.2.1 1 (by omega)
        have fR_2 := XR_2.2.2; have lR_2 := XR_2.1
        obtain ⟨zS0_2, qS0_2⟩ := XS_2.2.1 0 (by omega)
        obtain ⟨zS1_2, qS1_2⟩ := XS_2.2.1 1 (by omega)
        obtain ⟨zS2_2, qS2_2⟩ := XS_2.2.1 2 (by omega)
        have fS_2 := XS_2.2.2; have lS_2 := XS_2.1
        go_wp2_with fail
        refine (pickC (K := K + 2 + 2) ?_ ?_ ?_ ?_).mono ?_
        · exact qa2
        · omega
        · omega
        · omega
        rintro e3 w3 ⟨r3, rfl, ra3, rb3, hc3, hg3⟩
        have hz3 := hg3.size
        (try simp only [wz1, wz2, wz3, wz4] at hz3)
        have XR_3 : IBox w3 (w.heap.size) 2 := by
          refine IBox.chg ?_ hg3 (by show ¬ _ = _; omega)
          exact qa12
        have XS_3 : IBox w3 (w.heap.size + 1) 3 := by
          refine IBox.chg ?_ hg3 (by show ¬ _ = _; omega)
          exact qa12
        clear qR0_2 qR1_2 fR_2 XR_2 qS0_2 qS1_2 qS2_2 fS_2 XS_2
        clear hc2
        obtain ⟨zR0_3, qR0_3⟩ := XR_3.2.1 0 (by omega)
        obtain ⟨zR1_3, qR1_3⟩ := XR_3.2.1 1 (by omega)
        have fR_3 := XR_3.2.2; have lR_3 := XR_3.1
        obtain ⟨zS0_3, qS0_3⟩ := XS_3.2.1 0 (by omega)
        obtain ⟨zS1_3, qS1_3⟩ := XS_3.2.1 1 (by omega)
        obtain ⟨zS2_3, qS2_3⟩ := XS_3.2.1 2 (by omega)
        have fS_3 := XS_3.2.2; have lS_3 := XS_3.1
        go_wp2_with fail
        refine (pickC (K := K + 2 + 2 + 2) ?_ ?_ ?_ ?_).mono ?_
        · exact qa2
        · omega
        · omega
        · omega
        rintro e4 w4 ⟨r4, rfl, ra4, rb4, hc4, hg4⟩
        have hz4 := hg4.size
        (try simp only [wz1, wz2, wz3, wz4] at hz4)
        have XR_4 : IBox w4 (w.heap.size) 2 := by
          refine IBox.chg ?_ hg4 (by show ¬ _ = _; omega)
          exact qa12
        have XS_4 : IBox w4 (w.heap.size + 1) 3 := by
          refine IBox.chg ?_ hg4 (by show ¬ _ = _; omega)
          exact qa12
        clear qR0_3 qR1_3 fR_3 XR_3 qS0_3 qS1_3 qS2_3 fS_3 XS_3
        clear hc3
        obtain ⟨zR0_4, qR0_4⟩ := XR_4.2.1 0 (by omega)
        obtain ⟨zR1_4, qR1_4⟩ := XR_4.2.1 1 (by omega)
        have fR_4 := XR_4.2.2; have lR_4 := XR_4.1
        obtain ⟨zS0_4, qS0_4⟩ := XS_4.2.1 0 (by omega)
        obtain ⟨zS1_4, qS1_4⟩ := XS_4.2.1 1 (by omega)
        obtain ⟨zS2_4, qS2_4⟩ := XS_4.2.1 2 (by omega)
        have fS_4 := XS_4.2.2; have lS_4 := XS_4.1
        obtain ⟨X, hX⟩ : ∃ X, X = r2 - 10 := ⟨_, rfl⟩
        obtain ⟨Y, hY⟩ : ∃ Y, Y = r3 - 15 := ⟨_, rfl⟩
        obtain ⟨A, hA⟩ : ∃ A, A = r4 - 15 := ⟨_, rfl⟩
        have kx : r2 - 10 = X := hX.symm
        have ky : r3 - 15 = Y := hY.symm
        have ka : r4 - 15 = A := hA.symm
        have bX : X.natAbs ≤ 10 := by omega
        have bY : Y.natAbs ≤ 15 := by omega
        have bA : A.natAbs ≤ 15 := by omega
        have n1 := nmul bY bY; have n2 := nmul bX bX; have n3 := nmul n2 bX; have n4 := nmul bA bX
        have n5 := nsub n1 n3; have n6 := nsub n5 n4
        have k1 : wrap64 (Y * Y) = Y * Y := win (by omega)
        have k2 : wrap64 (X * X) = X * X := win (by omega)
        have k3 : wrap64 (X * X * X) = X * X * X := win (by omega)
        have k4 : wrap64 (A * X) = A * X := win (by omega)
        have k5 : wrap64 (Y * Y - X * X * X) = Y * Y - X * X * X := win (by omega)
        have k6a : wrap64 (Y * Y - X * X * X - A * X) = Y * Y - X * X * X - A * X := win (by omega)
        clear hX hY hA n1 n2 n3 n4 n5 n6
        obtain ⟨Bv, hBv⟩ : ∃ Bv, Bv = Y * Y - X * X * X - A * X := ⟨_, rfl⟩
        have k6 : wrap64 (Y * Y - X * X * X - A * X) = Bv := by rw [hBv]; exact k6a
        clear k6a
        have HBV := Lib.hid hBv; clear hBv
        go_wp2_with fail
        refine name_worldC (fun V5 hV5 => ?_)
        have hcV : CurAt V5 b (K + 2 + 2 + 2 + 2) := by subst hV5; exact qa2
        have hgV : ChgS (fun k => k = b) w V5 := by subst hV5; exact qa13
        have YR : IBox V5 (w.heap.size) 2 := by subst hV5; exact qa12
        have YS : IBox V5 (w.heap.size + 1) 3 := by subst hV5; exact qa12
        have BE : Box V5 w4.heap.size [.int .i64 A, .int .i64 Bv] := by subst hV5; exact box_two (by first | omega | (simp; done) | (simp; omega)) (by simp [go_sem]) (by simp [go_sem]) (fun o => by simp [go_sem])
        clear hV5
        refine (ecGood_any A Bv _).mono ?_
        rintro e5 w5 ⟨rfl, hb5⟩
        have hg5 := hgV.trans (ChgS.of_below (S := fun k => k = b) hb5)
        have hc5 := hcV.below hb5
        have hz5 := hg5.size
        have XR_5 := YR.below hb5
        have XS_5 := YS.below hb5
        have BE2 := BE.below hb5
        clear BE hcV hgV YR YS
        clear qR0_4 qR1_4 fR_4 XR_4 qS0_4 qS1_4 qS2_4 fS_4 XS_4
        clear hc4
        obtain ⟨zR0_5, qR0_5⟩ := XR_5.2.1 0 (by omega)
        obtain ⟨zR1_5, qR1_5⟩ := XR_5.2.1 1 (by omega)
        have fR_5 := XR_5.2.2; have lR_5 := XR_5.1
        obtain ⟨zS0_5, qS0_5⟩ := XS_5.2.1 0 (by omega)
        obtain ⟨zS1_5, qS1_5⟩ := XS_5.2.1 1 (by omega)
        obtain ⟨zS2_5, qS2_5⟩ := XS_5.2.1 2 (by omega)
        have fS_5 := XS_5.2.2; have lS_5 := XS_5.1
        have q0 := BE2.2.1 0 _ rfl; have q1 := BE2.2.1 1 _ rfl; have ql := BE2.1
        cases hCC : isC A Bv
        · skip
          obtain ⟨zr0, zr1, BR0⟩ := IBox.box2 XR_5
          obtain ⟨zs0, zs1, zs2, BS0⟩ := IBox.box3 XS_5
          go_wp2_with fail
          refine name_worldB (fun WF hWF => ?_)
          have BR : Box WF (w.heap.size) [.int .i64 (-2), .int .i64 1] := by subst hWF; exact qa7
          have BS : Box WF (w.heap.size + 1) [.int .i64 0, .int .i64 1, .int .i64 1] := by subst hWF; exact qa7
          have hCF : CurAt WF b (K + 2 + 2 + 2 + 2) := by subst hWF; exact qa2
          have hGF : ChgS (fun k => k = b) w WF := by subst hWF; exact qa13
          clear hWF
          have u0 := BR.2.1 0 _ rfl; have u1 := BR.2.1 1 _ rfl; have v0 := BS.2.1 0 _ rfl; have v1 := BS.2.1 1 _ rfl; have v2 := BS.2.1 2 _ rfl; have ul := BR.1; have vl := BS.1
          refine bodyPost_ret (v := .tuple #[.agg #[.int .i64 (-2), .int .i64 1], .agg #[.int .i64 0, .int .i64 1, .int .i64 1]]) (by simp [results, Tryz.results106, go_sem, ul, vl, u0, u1, v0, v1, v2]) rfl ?_
          exact ⟨_, _, _, _, _, rfl, by decide +kernel, PV_pt (by decide) (by decide) (by decide) (by decide) (by decide +kernel) (by decide +kernel), hCF.mono (by omega), hGF⟩
        · skip
          obtain ⟨zr0, zr1, BR0⟩ := IBox.box2 XR_5
          obtain ⟨zs0, zs1, zs2, BS0⟩ := IBox.box3 XS_5
          go_wp2_with fail
          refine name_worldB (fun WF hWF => ?_)
          have BR : Box WF (w.heap.size) [.int .i64 A, .int .i64 Bv] := by subst hWF; exact qa7
          have BS : Box WF (w.heap.size + 1) [.int .i64 X, .int .i64 Y, .int .i64 1] := by subst hWF; exact qa7
          have hCF : CurAt WF b (K + 2 + 2 + 2 + 2) := by subst hWF; exact qa2
          have hGF : ChgS (fun k => k = b) w WF := by subst hWF; exact qa13
          clear hWF
          have u0 := BR.2.1 0 _ rfl; have u1 := BR.2.1 1 _ rfl; have v0 := BS.2.1 0 _ rfl; have v1 := BS.2.1 1 _ rfl; have v2 := BS.2.1 2 _ rfl; have ul := BR.1; have vl := BS.1
          refine bodyPost_ret (v := .tuple #[.agg #[.int .i64 A, .int .i64 Bv], .agg #[.int .i64 X, .int .i64 Y, .int .i64 1]]) (by simp [results, Tryz.results106, go_sem, ul, vl, u0, u1, v0, v1, v2]) rfl ?_
          exact ⟨_, _, _, _, _, rfl, hCC, PV_pt (by omega) (by omega) (by decide) (by decide) (by simp) (by rw [HBV.out]; unfold cvI; grind), hCF.mono (by omega), hGF⟩
/-! ### drawn points, any of them -/
theorem sCells {w : World} {g h : Nat} {A B x y t : Value} (h1 : Box w g [A, B]) (h2 : Box w h [x, y, t]) : w.cell? ⟨g, 0, none⟩ = some A ∧ w.cell? ⟨g, 1, none⟩ = some B ∧ w.cell? ⟨h, 0, none⟩ = some x ∧ w.cell? ⟨h, 1, none⟩ = some y ∧ w.cell? ⟨h, 2, none⟩ = some t :=
  ⟨h1.2.1 0 _ rfl, h1.2.1 1 _ rfl, h2.2.1 0 _ rfl, h2.2.1 1 _ rfl, h2.2.1 2 _ rfl⟩
theorem made3 (w : World) (u v x : Value) (T : TypeId) : Box (w.alloc (Obj.cells #[u, v, x] T)) w.heap.size [u, v, x] := box_three (by simp) (by simp) (by simp) (by simp) (fun o => by simp)
theorem made2 (w : World) (u v : Value) (T : TypeId) : Box (w.alloc (Obj.cells #[u, v] T)) w.heap.size [u, v] := box_two (by simp) (by simp) (by simp) (fun o => by simp)
theorem made2h {w : World} {u v : Value} {T : TypeId} {b : Nat} (h : b = w.heap.size) : Box (w.alloc (Obj.cells #[u, v] T)) b [u, v] := h ▸ made2 w u v T
theorem made3h {w : World} {u v x : Value} {T : TypeId} {b : Nat} (h : b = w.heap.size) : Box (w.alloc (Obj.cells #[u, v, x] T)) b [u, v, x] := h ▸ made3 w u v x T
theorem made3_chg {S : Nat → Prop} {w w' : World} {u v x : Value} {T : TypeId} (h : ChgS S (w.alloc (Obj.cells #[u, v, x] T)) w') (hn : ¬ S w.heap.size) : Box w' w.heap.size [u, v, x] := (made3 w u v x T).chg h hn
theorem made3_chgD {S : Nat → Prop} {w w' : World} {u v x : Value} {T : TypeId} (h : ChgS S (w.alloc (Obj.cells #[u, v, x] T)).drew w') (hn : ¬ S w.heap.size) : Box w' w.heap.size [u, v, x] := (Box.drewR (made3 w u v x T)).chg h hn
theorem made3_below {w w' : World} {u v x : Value} {T : TypeId} (h : Below (w.alloc (Obj.cells #[u, v, x] T)).heap.size (w.alloc (Obj.cells #[u, v, x] T)) w') : Box w' w.heap.size [u, v, x] := (made3 w u v x T).below h
def GQT (w : World) (e : Ending) (w' : World) : Prop := ∃ u v t : Int, ∃ ok : Bool, e = .returned (.tuple #[.agg #[.int .i64 u, .int .i64 v, .int .i64 t], .bool ok]) ∧ Below w.heap.size w w'
theorem ptTimesQ {A B x y e n : Int} (h1 : -1000000 ≤ n) (h2 : n ≤ 1000000) (hC : isC A B = true) (hp : EC.PV A B (x, y, e)) (w : World) :
    Calls Tryz.prog 107 #[.agg #[.int .i64 A, .int .i64 B], .agg #[.int .i64 x, .int .i64 y, .int .i64 e], .int .i64 n] w (GQT w) := by
  obtain ⟨u, v, t, ok, h⟩ := mpT_f (mpO A (x, y, e) n)
  have := ptTimesZ A B x y e n h1 h2 hC hp w
  rw [h] at this
  refine this.mono ?_
  rintro e9 w9 ⟨rfl, hb⟩
  exact ⟨u, v, t, ok, rfl, hb⟩
set_option maxRecDepth 100000 in
set_option maxHeartbeats 8000000 in
theorem anyPointC {b K : Nat} {w : World} (h : CurAt w b K) (hK : K ≤ 100000) : Calls Tryz.prog 72 #[.pointer (some ⟨b, 0, none⟩)] w (GR5 b (K + 80) w) := by
  have hblt := h.lt
  unfold GR5
  go_enter Tryz.func72, Tryz.ntmps72
  go_wp2_with fail
  refine (pointedC (K := K) ?_ ?_).mono ?_
  · exact qa2
  · omega
  rintro e1 w1 ⟨A1, B1, x1, y1, t1, rfl, hC1, hP1, hc1, hg1⟩
  have hz1 := hg1.size
  (try simp only [wz1, wz2, wz3, wz4] at hz1)
  have XR_1 : IBox w1 (w.heap.size) 2 := by
    refine IBox.chg ?_ hg1 (by show ¬ _ = _; omega)
    exact qa1
  have XS_1 : IBox w1 (w.heap.size + 1) 3 := by
    refine IBox.chg ?_ hg1 (by show ¬ _ = _; omega)
    exact qa1
  obtain ⟨zR0_1, qR0_1⟩ := XR_1.2.1 0 (by omega)
  obtain ⟨zR1_1, qR1_1⟩ := XR_1.2.1 1 (by omega)
  have fR_1 := XR_1.2.2; have lR_1 := XR_1.1
  obtain ⟨zS0_1, qS0_1⟩ := XS_1.2.1 0 (by omega)
  obtain ⟨zS1_1, qS1_1⟩ := XS_1.2.1 1 (by omega)
  obtain ⟨zS2_1, qS2_1⟩ := XS_1.2.1 2 (by omega)
  have fS_1 := XS_1.2.2; have lS_1 := XS_1.1
  go_wp2_with fail
  refine name_worldC (fun V2 hV2 => ?_)
  have hcV : CurAt V2 b (K + 10) := by subst hV2; exact qa2
  have hgV : ChgS (fun k => k = b) w V2 := by subst hV2; exact qa6
  have YR : IBox V2 (w.heap.size) 2 := by subst hV2; exact qa1
  have YS : IBox V2 (w.heap.size + 1) 3 := by subst hV2; exact qa1
  have YE : IBox V2 (w1.heap.size) 2 := by subst hV2; exact qa1
  have YP : IBox V2 (w1.heap.size + 1) 3 := by subst hV2; exact qa1
  have ZE : Box V2 (w1.heap.size) [.int .i64 A1, .int .i64 B1] := by subst hV2; exact box_two (by first | omega | (simp; done) | (simp; omega)) (by simp [go_sem]) (by simp [go_sem]) (fun o => by simp [go_sem])
  have ZP : Box V2 (w1.heap.size + 1) [.int .i64 x1, .int .i64 y1, .int .i64 t1] := by subst hV2; exact box_three (by first | omega | (simp; done) | (simp; omega)) (by simp [go_sem]) (by simp [go_sem]) (by simp [go_sem]) (fun o => by simp [go_sem])
  clear hV2
  refine (oneC (K := K + 10) hcV (by omega) (by omega)).mono ?_
  rintro e2 w2 ⟨r2, rfl, hc2, hg2⟩
  have hz2 := hg2.size
  have XR_2 : IBox w2 (w.heap.size) 2 := IBox.chg YR hg2 (by show ¬ _ = _; omega)
  have XS_2 : IBox w2 (w.heap.size + 1) 3 := IBox.chg YS hg2 (by show ¬ _ = _; omega)
  have XE_2 : IBox w2 (w1.heap.size) 2 := IBox.chg YE hg2 (by show ¬ _ = _; omega)
  have XP_2 : IBox w2 (w1.heap.size + 1) 3 := IBox.chg YP hg2 (by show ¬ _ = _; omega)
  have BE := ZE.chg hg2 (by show ¬ _ = _; omega); have BP := ZP.chg hg2 (by show ¬ _ = _; omega)
  have hgw := hgV.trans hg2
  clear qR0_1 qR1_1 fR_1 XR_1 qS0_1 qS1_1 qS2_1 fS_1 XS_1
  clear hc1
  clear ZE ZP hcV hgV hg2 YR YS YE YP
  go_upto_if 15 with fail
  go_cut [7] (fun _ wx => CurAt wx b (K + 10 + 2 + 6) ∧ IBox wx (w.heap.size) 2 ∧ IBox wx (w.heap.size + 1) 3 ∧ IBox wx (w1.heap.size) 2 ∧ IBox wx (w1.heap.size + 1) 3 ∧ ChgS (fun k => k = b) w wx)
  case first =>
    cases r2
    · skip
      go_wp2_with fail
      go_meet
      exact ⟨CurAt.mono (K := K + 10 + 2) qa2 (by omega), by exact qa1, by exact qa1, by exact qa1, by exact qa1, by exact qa6⟩
    · skip
      have HPT := Lib.hid (fun n (h1 : -4 ≤ n) (h2 : n ≤ 4) W => ptTimesQ (n := n) (by omega) (by omega) hC1 hP1 W)
      clear hC1 hP1
      have lE := BE.1; have lP := BP.1
      obtain ⟨KC, hKC⟩ : ∃ KC : Nat, KC = K + 10 + 2 := ⟨_, rfl⟩
      rw [← hKC] at hc2
      go_wp2_with fail
      refine wp_region_x (fun w' => w'.cell? ⟨w1.heap.size, 0, none⟩ = some (.int .i64 A1) ∧ w'.cell? ⟨w1.heap.size, 1, none⟩ = some (.int .i64 B1) ∧ w'.cell? ⟨w1.heap.size + 1, 0, none⟩ = some (.int .i64 x1) ∧ w'.cell? ⟨w1.heap.size + 1, 1, none⟩ = some (.int .i64 y1) ∧ w'.cell? ⟨w1.heap.size + 1, 2, none⟩ = some (.int .i64 t1)) (fun i => decide (i < 12)) (by kernel_rfl) ?_ (fun hHeld => ?_)
      focus ((try dsimp only); (exact sCells qa4 qa4))
      refine wtk (v := ?_) 0 rfl ?_ (by assumption) ?_
      rotate_left
      focus (intro w hSw; (try dsimp only at hSw); go_simp; (try with_reducible rfl))
      (try simp only [Act.put, wz5, wz6, wz7])
      refine wtk (v := ?_) 1 rfl ?_ (by assumption) ?_
      rotate_left
      focus (intro w hSw; (try dsimp only at hSw); go_simp; (try with_reducible rfl))
      (try simp only [Act.put, wz5, wz6, wz7])
      refine wtk (v := ?_) 2 rfl ?_ (by assumption) ?_
      rotate_left
      focus (intro w hSw; (try dsimp only at hSw); go_simp; (try with_reducible rfl))
      (try simp only [Act.put, wz5, wz6, wz7])
      refine wpAnyX_two 3 9 rfl rfl (by kernel_rfl) (fun K hK => ?_) (fun K hK => ?_)
      · go_simp
        (go_at_call 83; refine (pickC (K := KC) qa2 (by omega) (by omega) (by omega)).mono ?_; rintro e3 w3 ⟨r3, rfl, ra3, rb3, hc3, hg3⟩; have kw3 : wrap64 (r3 - 4) = r3 - 4 := win (by omega); have hz3 := hg3.size; (try simp only [wz1, wz2, wz3, wz4] at hz3); have XR_3 : IBox w3 (w.heap.size) 2 := IBox.chg (by first | exact XR_2 | exact IBox.drew XR_2 | exact IBox.alloc (IBox.drew XR_2) _ | exact IBox.drew (IBox.alloc XR_2 _)) hg3 (by show ¬ _ = _; omega); have XS_3 : IBox w3 (w.heap.size + 1) 3 := IBox.chg (by first | exact XS_2 | exact IBox.drew XS_2 | exact IBox.alloc (IBox.drew XS_2) _ | exact IBox.drew (IBox.alloc XS_2 _)) hg3 (by show ¬ _ = _; omega); have XE_3 : IBox w3 (w1.heap.size) 2 := IBox.chg (by first | exact XE_2 | exact IBox.drew XE_2 | exact IBox.alloc (IBox.drew XE_2) _ | exact IBox.drew (IBox.alloc XE_2 _)) hg3 (by show ¬ _ = _; omega); have XP_3 : IBox w3 (w1.heap.size + 1) 3 := IBox.chg (by first | exact XP_2 | exact IBox.drew XP_2 | exact IBox.alloc (IBox.drew XP_2) _ | exact IBox.drew (IBox.alloc XP_2 _)) hg3 (by show ¬ _ = _; omega); have BE3 : Box w3 (w1.heap.size) _ := Box.chg (by (first | exact BE | exact Box.drewR BE | exact Box.alloc (Box.drewR BE) _ | exact Box.drewR (Box.alloc BE _))) hg3 (by show ¬ _ = _; omega); have BP3 : Box w3 (w1.heap.size + 1) _ := Box.chg (by (first | exact BP | exact Box.drewR BP | exact Box.alloc (Box.drewR BP) _ | exact Box.drewR (Box.alloc BP _))) hg3 (by show ¬ _ = _; omega); (try (with_reducible have BQ3 := made3_chg hg3)); (try (with_reducible have BQ3 := made3_chgD hg3)); (try (replace BQ3 := BQ3 (by show ¬ _ = _; first | omega | (simp; omega)); (try simp only [World.size_drew] at BQ3))))
        go_wp2_with fail
        clear hHeld
        refine hK.out _ _ ?_ (fun hHeld => ?_)
        focus ((try dsimp only); (exact sCells qa4 qa4))
        clear hK K
        (try simp only [Act.put, wz5, wz6, wz7])
        refine wtk (v := ?_) 4 rfl ?_ (by assumption) ?_
        rotate_left
        focus (intro w hSw; (try dsimp only at hSw); go_simp; (try with_reducible rfl))
        (try simp only [Act.put, wz5, wz6, wz7])
        refine wpAnyX_two 5 9 rfl rfl (by kernel_rfl) (fun K hK => ?_) (fun K hK => ?_)
        · go_simp
          ((try simp only [IntWalk.i64_left, kw3]); go_at_call 107; refine (HPT.out (r3 - 4) (by omega) (by omega) _).mono ?_; rintro e4 w4 ⟨q1, q2, q3, qk, rfl, hb4⟩; have hz4 := hb4.size; (try simp only [wz1, wz2, wz3, wz4] at hz4); have XR_4 : IBox w4 (w.heap.size) 2 := IBox.below (by first | exact XR_3 | exact IBox.alloc XR_3 _) hb4; have XS_4 : IBox w4 (w.heap.size + 1) 3 := IBox.below (by first | exact XS_3 | exact IBox.alloc XS_3 _) hb4; have XE_4 : IBox w4 (w1.heap.size) 2 := IBox.below (by first | exact XE_3 | exact IBox.alloc XE_3 _) hb4; have XP_4 : IBox w4 (w1.heap.size + 1) 3 := IBox.below (by first | exact XP_3 | exact IBox.alloc XP_3 _) hb4; have hc4 : CurAt w4 b (KC + 2) := CurAt.below (by first | exact hc3 | exact CurAt.alloc hc3 _) hb4; have hg4 := ChgS.of_below (S := fun k => k = b) hb4; have BE4 : Box w4 (w1.heap.size) _ := Box.below (by first | exact BE3 | exact Box.alloc BE3 _) hb4; have BP4 : Box w4 (w1.heap.size + 1) _ := Box.below (by first | exact BP3 | exact Box.alloc BP3 _) hb4; (try (with_reducible have BQ4 := made3_below hb4)); (try (have BQ4 := Box.below BQ3 hb4)); (try (have v0 := BQ4.2.1 0 _ rfl; have v1 := BQ4.2.1 1 _ rfl; have v2 := BQ4.2.1 2 _ rfl; have vf := BQ4.2.2; have vl := BQ4.1)); have p0 := BP4.2.1 0 _ rfl; have p1 := BP4.2.1 1 _ rfl; have p2 := BP4.2.1 2 _ rfl; have pf := BP4.2.2; have pl := BP4.1)
          go_wp2_with fail
          clear hHeld
          refine hK.out _ _ ?_ (fun hHeld => ?_)
          focus ((try dsimp only); (exact sCells qa4 qa4))
          clear hK K
          (try simp only [Act.put, wz5, wz6, wz7])
          refine wtk (v := ?_) 6 rfl ?_ (by assumption) ?_
          rotate_left
          focus (intro w hSw; (try dsimp only at hSw); go_simp; (try with_reducible rfl))
          (try simp only [Act.put, wz5, wz6, wz7])
          refine wtk (v := ?_) 7 rfl ?_ (by assumption) ?_
          rotate_left
          focus (intro w hSw; (try dsimp only at hSw); go_simp; (try with_reducible rfl))
          (try simp only [Act.put, wz5, wz6, wz7])
          refine wtk (v := ?_) 8 rfl ?_ (by assumption) ?_
          rotate_left
          focus (intro w hSw; (try dsimp only at hSw); go_simp; (try with_reducible rfl))
          (try simp only [Act.put, wz5, wz6, wz7])
          refine wpAnyX_one 9 rfl (by kernel_rfl) (fun K hK => ?_)
          go_simp
          clear hHeld
          refine hK.out _ _ ?_ (fun hHeld => ?_)
          focus ((try dsimp only); (exact sCells qa4 qa4))
          clear hK K
          (try simp only [Act.put, wz5, wz6, wz7])
          refine wpAnyX_one 10 rfl (by kernel_rfl) (fun K hK => ?_)
          go_simp
          clear hHeld
          refine hK.out _ _ ?_ (fun hHeld => ?_)
          focus ((try dsimp only); (exact sCells qa4 qa4))
          clear hK K
          (try simp only [Act.put, wz5, wz6, wz7])
          refine wtk (v := ?_) 11 rfl ?_ (by assumption) ?_
          rotate_left
          focus (intro w hSw; (try dsimp only at hSw); go_simp; (try with_reducible rfl))
          (try simp only [Act.put, wz5, wz6, wz7])
          refine wpAnyX_done (by kernel_rfl) ?_ _
          refine NoPanic.normal ?_
          cases qk <;> (go_wp2_with fail; go_meet; exact ⟨CurAt.mono (K := KC + 2) qa2 (by omega), by exact qa1, by exact qa1, by exact qa1, by exact qa1, by exact qa6⟩)
        · go_simp
          clear hHeld
          refine hK.out _ _ ?_ (fun hHeld => ?_)
          focus ((try dsimp only); (exact sCells qa4 qa4))
          clear hK K
          (try simp only [Act.put, wz5, wz6, wz7])
          refine wpAnyX_one 5 rfl (by kernel_rfl) (fun K hK => ?_)
          go_simp
          ((try simp only [IntWalk.i64_left, kw3]); go_at_call 107; refine (HPT.out (r3 - 4) (by omega) (by omega) _).mono ?_; rintro e4 w4 ⟨q1, q2, q3, qk, rfl, hb4⟩; have hz4 := hb4.size; (try simp only [wz1, wz2, wz3, wz4] at hz4); have XR_4 : IBox w4 (w.heap.size) 2 := IBox.below (by first | exact XR_3 | exact IBox.alloc XR_3 _) hb4; have XS_4 : IBox w4 (w.heap.size + 1) 3 := IBox.below (by first | exact XS_3 | exact IBox.alloc XS_3 _) hb4; have XE_4 : IBox w4 (w1.heap.size) 2 := IBox.below (by first | exact XE_3 | exact IBox.alloc XE_3 _) hb4; have XP_4 : IBox w4 (w1.heap.size + 1) 3 := IBox.below (by first | exact XP_3 | exact IBox.alloc XP_3 _) hb4; have hc4 : CurAt w4 b (KC + 2) := CurAt.below (by first | exact hc3 | exact CurAt.alloc hc3 _) hb4; have hg4 := ChgS.of_below (S := fun k => k = b) hb4; have BE4 : Box w4 (w1.heap.size) _ := Box.below (by first | exact BE3 | exact Box.alloc BE3 _) hb4; have BP4 : Box w4 (w1.heap.size + 1) _ := Box.below (by first | exact BP3 | exact Box.alloc BP3 _) hb4; (try (with_reducible have BQ4 := made3_below hb4)); (try (have BQ4 := Box.below BQ3 hb4)); (try (have v0 := BQ4.2.1 0 _ rfl; have v1 := BQ4.2.1 1 _ rfl; have v2 := BQ4.2.1 2 _ rfl; have vf := BQ4.2.2; have vl := BQ4.1)); have p0 := BP4.2.1 0 _ rfl; have p1 := BP4.2.1 1 _ rfl; have p2 := BP4.2.1 2 _ rfl; have pf := BP4.2.2; have pl := BP4.1)
          go_wp2_with fail
          clear hHeld
          refine hK.out _ _ ?_ (fun hHeld => ?_)
          focus ((try dsimp only); (exact sCells qa4 qa4))
          clear hK K
          (try simp only [Act.put, wz5, wz6, wz7])
          refine wtk (v := ?_) 6 rfl ?_ (by assumption) ?_
          rotate_left
          focus (intro w hSw; (try dsimp only at hSw); go_simp; (try with_reducible rfl))
          (try simp only [Act.put, wz5, wz6, wz7])
          refine wtk (v := ?_) 7 rfl ?_ (by assumption) ?_
          rotate_left
          focus (intro w hSw; (try dsimp only at hSw); go_simp; (try with_reducible rfl))
          (try simp only [Act.put, wz5, wz6, wz7])
          refine wtk (v := ?_) 8 rfl ?_ (by assumption) ?_
          rotate_left
          focus (intro w hSw; (try dsimp only at hSw); go_simp; (try with_reducible rfl))
          (try simp only [Act.put, wz5, wz6, wz7])
          refine wpAnyX_one 10 rfl (by kernel_rfl) (fun K hK => ?_)
          go_simp
          clear hHeld
          refine hK.out _ _ ?_ (fun hHeld => ?_)
          focus ((try dsimp only); (exact sCells qa4 qa4))
          clear hK K
          (try simp only [Act.put, wz5, wz6, wz7])
          refine wtk (v := ?_) 11 rfl ?_ (by assumption) ?_
          rotate_left
          focus (intro w hSw; (try dsimp only at hSw); go_simp; (try with_reducible rfl))
          (try simp only [Act.put, wz5, wz6, wz7])
          refine wpAnyX_done (by kernel_rfl) ?_ _
          refine NoPanic.normal ?_
          cases qk <;> (go_wp2_with fail; go_meet; exact ⟨CurAt.mono (K := KC + 2) qa2 (by omega), by exact qa1, by exact qa1, by exact qa1, by exact qa1, by exact qa6⟩)
      · go_simp
        clear hHeld
        refine hK.out _ _ ?_ (fun hHeld => ?_)
        focus ((try dsimp only); (exact sCells qa4 qa4))
        clear hK K
        (try simp only [Act.put, wz5, wz6, wz7])
        refine wpAnyX_one 3 rfl (by kernel_rfl) (fun K hK => ?_)
        go_simp
        (go_at_call 83; refine (pickC (K := KC) qa2 (by omega) (by omega) (by omega)).mono ?_; rintro e3 w3 ⟨r3, rfl, ra3, rb3, hc3, hg3⟩; have kw3 : wrap64 (r3 - 4) = r3 - 4 := win (by omega); have hz3 := hg3.size; (try simp only [wz1, wz2, wz3, wz4] at hz3); have XR_3 : IBox w3 (w.heap.size) 2 := IBox.chg (by first | exact XR_2 | exact IBox.drew XR_2 | exact IBox.alloc (IBox.drew XR_2) _ | exact IBox.drew (IBox.alloc XR_2 _)) hg3 (by show ¬ _ = _; omega); have XS_3 : IBox w3 (w.heap.size + 1) 3 := IBox.chg (by first | exact XS_2 | exact IBox.drew XS_2 | exact IBox.alloc (IBox.drew XS_2) _ | exact IBox.drew (IBox.alloc XS_2 _)) hg3 (by show ¬ _ = _; omega); have XE_3 : IBox w3 (w1.heap.size) 2 := IBox.chg (by first | exact XE_2 | exact IBox.drew XE_2 | exact IBox.alloc (IBox.drew XE_2) _ | exact IBox.drew (IBox.alloc XE_2 _)) hg3 (by show ¬ _ = _; omega); have XP_3 : IBox w3 (w1.heap.size + 1) 3 := IBox.chg (by first | exact XP_2 | exact IBox.drew XP_2 | exact IBox.alloc (IBox.drew XP_2) _ | exact IBox.drew (IBox.alloc XP_2 _)) hg3 (by show ¬ _ = _; omega); have BE3 : Box w3 (w1.heap.size) _ := Box.chg (by (first | exact BE | exact Box.drewR BE | exact Box.alloc (Box.drewR BE) _ | exact Box.drewR (Box.alloc BE _))) hg3 (by show ¬ _ = _; omega); have BP3 : Box w3 (w1.heap.size + 1) _ := Box.chg (by (first | exact BP | exact Box.drewR BP | exact Box.alloc (Box.drewR BP) _ | exact Box.drewR (Box.alloc BP _))) hg3 (by show ¬ _ = _; omega); (try (with_reducible have BQ3 := made3_chg hg3)); (try (with_reducible have BQ3 := made3_chgD hg3)); (try (replace BQ3 := BQ3 (by show ¬ _ = _; first | omega | (simp; omega)); (try simp only [World.size_drew] at BQ3))))
        go_wp2_with fail
        clear hHeld
        refine hK.out _ _ ?_ (fun hHeld => ?_)
        focus ((try dsimp only); (exact sCells qa4 qa4))
        clear hK K
        (try simp only [Act.put, wz5, wz6, wz7])
        refine wtk (v := ?_) 4 rfl ?_ (by assumption) ?_
        rotate_left
        focus (intro w hSw; (try dsimp only at hSw); go_simp; (try with_reducible rfl))
        (try simp only [Act.put, wz5, wz6, wz7])
        refine wpAnyX_one 5 rfl (by kernel_rfl) (fun K hK => ?_)
        go_simp
        ((try simp only [IntWalk.i64_left, kw3]); go_at_call 107; refine (HPT.out (r3 - 4) (by omega) (by omega) _).mono ?_; rintro e4 w4 ⟨q1, q2, q3, qk, rfl, hb4⟩; have hz4 := hb4.size; (try simp only [wz1, wz2, wz3, wz4] at hz4); have XR_4 : IBox w4 (w.heap.size) 2 := IBox.below (by first | exact XR_3 | exact IBox.alloc XR_3 _) hb4; have XS_4 : IBox w4 (w.heap.size + 1) 3 := IBox.below (by first | exact XS_3 | exact IBox.alloc XS_3 _) hb4; have XE_4 : IBox w4 (w1.heap.size) 2 := IBox.below (by first | exact XE_3 | exact IBox.alloc XE_3 _) hb4; have XP_4 : IBox w4 (w1.heap.size + 1) 3 := IBox.below (by first | exact XP_3 | exact IBox.alloc XP_3 _) hb4; have hc4 : CurAt w4 b (KC + 2) := CurAt.below (by first | exact hc3 | exact CurAt.alloc hc3 _) hb4; have hg4 := ChgS.of_below (S := fun k => k = b) hb4; have BE4 : Box w4 (w1.heap.size) _ := Box.below (by first | exact BE3 | exact Box.alloc BE3 _) hb4; have BP4 : Box w4 (w1.heap.size + 1) _ := Box.below (by first | exact BP3 | exact Box.alloc BP3 _) hb4; (try (with_reducible have BQ4 := made3_below hb4)); (try (have BQ4 := Box.below BQ3 hb4)); (try (have v0 := BQ4.2.1 0 _ rfl; have v1 := BQ4.2.1 1 _ rfl; have v2 := BQ4.2.1 2 _ rfl; have vf := BQ4.2.2; have vl := BQ4.1)); have p0 := BP4.2.1 0 _ rfl; have p1 := BP4.2.1 1 _ rfl; have p2 := BP4.2.1 2 _ rfl; have pf := BP4.2.2; have pl := BP4.1)
        go_wp2_with fail
        clear hHeld
        refine hK.out _ _ ?_ (fun hHeld => ?_)
        focus ((try dsimp only); (exact sCells qa4 qa4))
        clear hK K
        (try simp only [Act.put, wz5, wz6, wz7])
        refine wtk (v := ?_) 6 rfl ?_ (by assumption) ?_
        rotate_left
        focus (intro w hSw; (try dsimp only at hSw); go_simp; (try with_reducible rfl))
        (try simp only [Act.put, wz5, wz6, wz7])
        refine wtk (v := ?_) 7 rfl ?_ (by assumption) ?_
        rotate_left
        focus (intro w hSw; (try dsimp only at hSw); go_simp; (try with_reducible rfl))
        (try simp only [Act.put, wz5, wz6, wz7])
        refine wtk (v := ?_) 8 rfl ?_ (by assumption) ?_
        rotate_left
        focus (intro w hSw; (try dsimp only at hSw); go_simp; (try with_reducible rfl))
        (try simp only [Act.put, wz5, wz6, wz7])
        refine wpAnyX_one 10 rfl (by kernel_rfl) (fun K hK => ?_)
        go_simp
        clear hHeld
        refine hK.out _ _ ?_ (fun hHeld => ?_)
        focus ((try dsimp only); (exact sCells qa4 qa4))
        clear hK K
        (try simp only [Act.put, wz5, wz6, wz7])
        refine wtk (v := ?_) 11 rfl ?_ (by assumption) ?_
        rotate_left
        focus (intro w hSw; (try dsimp only at hSw); go_simp; (try with_reducible rfl))
        (try simp only [Act.put, wz5, wz6, wz7])
        refine wpAnyX_done (by kernel_rfl) ?_ _
        refine NoPanic.normal ?_
        cases qk <;> (go_wp2_with fail; go_meet; exact ⟨CurAt.mono (K := KC + 2) qa2 (by omega), by exact qa1, by exact qa1, by exact qa1, by exact qa1, by exact qa6⟩)
  case rest =>
    obtain ⟨hc3, XR_3, XS_3, XE_3, XP_3, hg3⟩ := hcut
    have hz3 := hg3.size
    obtain ⟨w3, hwc⟩ : ∃ x, x = wc := ⟨_, rfl⟩; subst hwc
    obtain ⟨zR0_3, qR0_3⟩ := XR_3.2.1 0 (by omega)
    obtain ⟨zR1_3, qR1_3⟩ := XR_3.2.1 1 (by omega)
    have fR_3 := XR_3.2.2; have lR_3 := XR_3.1
    obtain ⟨zS0_3, qS0_3⟩ := XS_3.2.1 0 (by omega)
    obtain ⟨zS1_3, qS1_3⟩ := XS_3.2.1 1 (by omega)
    obtain ⟨zS2_3, qS2_3⟩ := XS_3.2.1 2 (by omega)
    have fS_3 := XS_3.2.2; have lS_3 := XS_3.1
    obtain ⟨zE0_3, qE0_3⟩ := XE_3.2.1 0 (by omega)
    obtain ⟨zE1_3, qE1_3⟩ := XE_3.2.1 1 (by omega)
    have fE_3 := XE_3.2.2; have lE_3 := XE_3.1
    obtain ⟨zP0_3, qP0_3⟩ := XP_3.2.1 0 (by omega)
    obtain ⟨zP1_3, qP1_3⟩ := XP_3.2.1 1 (by omega)
    obtain ⟨zP2_3, qP2_3⟩ := XP_3.2.1 2 (by omega)
    have fP_3 := XP_3.2.2; have lP_3 := XP_3.1
    go_wp2_with fail
    refine (pickC (K := K + 10 + 2 + 6) ?_ ?_ ?_ ?_).mono ?_
    · exact qa2
    · omega
    · omega
    · omega
    rintro e4 w4 ⟨r4, rfl, ra4, rb4, hc4, hg4⟩
    have hz4 := hg4.size
    (try simp only [wz1, wz2, wz3, wz4] at hz4)
    have XR_4 : IBox w4 (w.heap.size) 2 := by
      refine IBox.chg ?_ hg4 (by show ¬ _ = _; omega)
      exact qa1
    have XS_4 : IBox w4 (w.heap.size + 1) 3 := by
      refine IBox.chg ?_ hg4 (by show ¬ _ = _; omega)
      exact qa1
    have XE_4 : IBox w4 (w1.heap.size) 2 := by
      refine IBox.chg ?_ hg4 (by show ¬ _ = _; omega)
      exact qa1
    have XP_4 : IBox w4 (w1.heap.size + 1) 3 := by
      refine IBox.chg ?_ hg4 (by show ¬ _ = _; omega)
      exact qa1
    clear qR0_3 qR1_3 fR_3 XR_3 qS0_3 qS1_3 qS2_3 fS_3 XS_3 qE0_3 qE1_3 fE_3 XE_3 qP0_3 qP1_3 qP2_3 fP_3 XP_3
    clear hc3
    obtain ⟨zR0_4, qR0_4⟩ := XR_4.2.1 0 (by omega)
    obtain ⟨zR1_4, qR1_4⟩ := XR_4.2.1 1 (by omega)
    have fR_4 := XR_4.2.2; have lR_4 := XR_4.1
    obtain ⟨zS0_4, qS0_4⟩ := XS_4.2.1 0 (by omega)
    obtain ⟨zS1_4, qS1_4⟩ := XS_4.2.1 1 (by omega)
    obtain ⟨zS2_4, qS2_4⟩ := XS_4.2.1 2 (by omega)
    have fS_4 := XS_4.2.2; have lS_4 := XS_4.1
    obtain ⟨zE0_4, qE0_4⟩ := XE_4.2.1 0 (by omega)
    obtain ⟨zE1_4, qE1_4⟩ := XE_4.2.1 1 (by omega)
    have fE_4 := XE_4.2.2; have lE_4 := XE_4.1
    obtain ⟨zP0_4, qP0_4⟩ := XP_4.2.1 0 (by omega)
    obtain ⟨zP1_4, qP1_4⟩ := XP_4.2.1 1 (by omega)
    obtain ⟨zP2_4, qP2_4⟩ := XP_4.2.1 2 (by omega)
    have fP_4 := XP_4.2.2; have lP_4 := XP_4.1
    by_cases hs4_0 : r4 = 0
    · subst hs4_0
      go_wp2_with fail
      refine (amongS (K := K + 10 + 2 + 6 + 2) ?_ ?_ ?_ ?_ ?_ ?_).mono ?_
      · exact qa2
      · omega
      · exact qa1
      · (show ¬ _ = _; omega)
      · omega
      · omega
      rintro e5 w5 ⟨r5, rfl, hc5, hg5⟩
      have hz5 := hg5.size
      (try simp only [wz1, wz2, wz3, wz4] at hz5)
      have XR_5 : IBox w5 (w.heap.size) 2 := by
        refine IBox.chg ?_ hg5 (by show ¬ _ = _; omega)
        exact qa1
      have XS_5 : IBox w5 (w.heap.size + 1) 3 := by
        refine IBox.chg ?_ hg5 (by show ¬ _ = _; omega)
        exact qa1
      have XE_5 : IBox w5 (w1.heap.size) 2 := by
        refine IBox.chg ?_ hg5 (by show ¬ _ = _; omega)
        exact qa1
      have XP_5 : IBox w5 (w1.heap.size + 1) 3 := by
        refine IBox.chg ?_ hg5 (by show ¬ _ = _; omega)
        exact qa1
      clear qR0_4 qR1_4 fR_4 XR_4 qS0_4 qS1_4 qS2_4 fS_4 XS_4 qE0_4 qE1_4 fE_4 XE_4 qP0_4 qP1_4 qP2_4 fP_4 XP_4
      clear hc4
      obtain ⟨zR0_5, qR0_5⟩ := XR_5.2.1 0 (by omega)
      obtain ⟨zR1_5, qR1_5⟩ := XR_5.2.1 1 (by omega)
      have fR_5 := XR_5.2.2; have lR_5 := XR_5.1
      obtain ⟨zS0_5, qS0_5⟩ := XS_5.2.1 0 (by omega)
      obtain ⟨zS1_5, qS1_5⟩ := XS_5.2.1 1 (by omega)
      obtain ⟨zS2_5, qS2_5⟩ := XS_5.2.1 2 (by omega)
      have fS_5 := XS_5.2.2; have lS_5 := XS_5.1
      obtain ⟨zE0_5, qE0_5⟩ := XE_5.2.1 0 (by omega)
      obtain ⟨zE1_5, qE1_5⟩ := XE_5.2.1 1 (by omega)
      have fE_5 := XE_5.2.2; have lE_5 := XE_5.1
      obtain ⟨zP0_5, qP0_5⟩ := XP_5.2.1 0 (by omega)
      obtain ⟨zP1_5, qP1_5⟩ := XP_5.2.1 1 (by omega)
      obtain ⟨zP2_5, qP2_5⟩ := XP_5.2.1 2 (by omega)
      have fP_5 := XP_5.2.2; have lP_5 := XP_5.1
      obtain ⟨g0, g1, BE⟩ := IBox.box2 XE_5; obtain ⟨g2, g3, g4, BP⟩ := IBox.box3 XP_5
      clear qE0_5 qE1_5 qP0_5 qP1_5 qP2_5 fE_5 fP_5
      have e0 := BE.2.1 0 _ rfl; have e1 := BE.2.1 1 _ rfl; have p0 := BP.2.1 0 _ rfl; have p1 := BP.2.1 1 _ rfl; have p2 := BP.2.1 2 _ rfl; have ef := BE.2.2; have pf := BP.2.2
      go_wp2_with fail
      refine wp_region_x (fun w' => w'.cell? ⟨w1.heap.size, 0, none⟩ = some (.int .i64 g0) ∧ w'.cell? ⟨w1.heap.size, 1, none⟩ = some (.int .i64 g1) ∧ w'.cell? ⟨w1.heap.size + 1, 0, none⟩ = some (.int .i64 r5) ∧ w'.cell? ⟨w1.heap.size + 1, 1, none⟩ = some (.int .i64 g3) ∧ w'.cell? ⟨w1.heap.size + 1, 2, none⟩ = some (.int .i64 g4)) (fun i => decide (i < 3)) (by kernel_rfl) ?_ (fun hHeld => ?_)
      focus ((try dsimp only); (exact sCells qa7 qa7))
      refine wtk (v := ?_) 0 rfl ?_ (by assumption) ?_
      rotate_left
      focus (intro w hSw; (try dsimp only at hSw); go_simp; (try with_reducible rfl))
      (try simp only [Act.put, wz5, wz6, wz7])
      refine wtk (v := ?_) 1 rfl ?_ (by assumption) ?_
      rotate_left
      focus (intro w hSw; (try dsimp only at hSw); go_simp; (try with_reducible rfl))
      (try simp only [Act.put, wz5, wz6, wz7])
      refine wpAnyX_one 2 rfl (by kernel_rfl) (fun K hK => ?_)
      go_simp
      clear hHeld
      refine hK.out _ _ ?_ (fun hHeld => ?_)
      focus ((try dsimp only); (exact sCells qa7 qa7))
      clear hK K
      (try simp only [Act.put, wz5, wz6, wz7])
      refine wpAnyX_last (D := fun i => decide (i < 3)) 3 rfl (by kernel_rfl) (by rfl) (fun K hK => ?_)
      go_simp
      refine hK.out _ _ ?_
      clear hK K
      (try simp only [Act.put, wz5, wz6, wz7])
      refine wpAnyX_done (by kernel_rfl) ?_ _
      refine NoPanic.normal ?_
      go_wp2_with fail
      refine name_worldB (fun WF hWF => ?_)
      have XR : IBox WF (w.heap.size) 2 := by subst hWF; exact qa1
      have XS : IBox WF (w.heap.size + 1) 3 := by subst hWF; exact qa1
      have hCF : CurAt WF b (K + 10 + 2 + 6 + 2 + 2) := by subst hWF; exact qa2
      have hGF : ChgS (fun k => k = b) w WF := by subst hWF; exact qa6
      clear hWF
      obtain ⟨x0, k0⟩ := XR.2.1 0 (by omega)
      obtain ⟨x1, k1⟩ := XR.2.1 1 (by omega)
      obtain ⟨y0, m0⟩ := XS.2.1 0 (by omega)
      obtain ⟨y1, m1⟩ := XS.2.1 1 (by omega)
      obtain ⟨y2, m2⟩ := XS.2.1 2 (by omega)
      have kl := XR.1; have ml := XS.1
      refine bodyPost_ret (v := .tuple #[.agg #[.int .i64 x0, .int .i64 x1], .agg #[.int .i64 y0, .int .i64 y1, .int .i64 y2]]) (by simp [results, Tryz.results72, go_sem, kl, ml, k0, k1, m0, m1, m2]) rfl ?_
      exact ⟨x0, x1, y0, y1, y2, rfl, hCF.mono (by omega), hGF⟩
    · have hq4_0 : (r4 == 0) = false := by simpa using hs4_0
      by_cases hs4_1 : r4 = 1
      · subst hs4_1
        go_wp2_with fail
        refine (amongS (K := K + 10 + 2 + 6 + 2) ?_ ?_ ?_ ?_ ?_ ?_).mono ?_
        · exact qa2
        · omega
        · exact qa1
        · (show ¬ _ = _; omega)
        · omega
        · omega
        rintro e5 w5 ⟨r5, rfl, hc5, hg5⟩
        have hz5 := hg5.size
        (try simp only [wz1, wz2, wz3, wz4] at hz5)
        have XR_5 : IBox w5 (w.heap.size) 2 := by
          refine IBox.chg ?_ hg5 (by show ¬ _ = _; omega)
          exact qa1
        have XS_5 : IBox w5 (w.heap.size + 1) 3 := by
          refine IBox.chg ?_ hg5 (by show ¬ _ = _; omega)
          exact qa1
        have XE_5 : IBox w5 (w1.heap.size) 2 := by
          refine IBox.chg ?_ hg5 (by show ¬ _ = _; omega)
          exact qa1
        have XP_5 : IBox w5 (w1.heap.size + 1) 3 := by
          refine IBox.chg ?_ hg5 (by show ¬ _ = _; omega)
          exact qa1
        clear qR0_4 qR1_4 fR_4 XR_4 qS0_4 qS1_4 qS2_4 fS_4 XS_4 qE0_4 qE1_4 fE_4 XE_4 qP0_4 qP1_4 qP2_4 fP_4 XP_4
        clear hc4
        obtain ⟨zR0_5, qR0_5⟩ := XR_5.2.1 0 (by omega)
        obtain ⟨zR1_5, qR1_5⟩ := XR_5.2.1 1 (by omega)
        have fR_5 := XR_5.2.2; have lR_5 := XR_5.1
        obtain ⟨zS0_5, qS0_5⟩ := XS_5.2.1 0 (by omega)
        obtain ⟨zS1_5, qS1_5⟩ := XS_5.2.1 1 (by omega)
        obtain ⟨zS2_5, qS2_5⟩ := XS_5.2.1 2 (by omega)
        have fS_5 := XS_5.2.2; have lS_5 := XS_5.1
        obtain ⟨zE0_5, qE0_5⟩ := XE_5.2.1 0 (by omega)
        obtain ⟨zE1_5, qE1_5⟩ := XE_5.2.1 1 (by omega)
        have fE_5 := XE_5.2.2; have lE_5 := XE_5.1
        obtain ⟨zP0_5, qP0_5⟩ := XP_5.2.1 0 (by omega)
        obtain ⟨zP1_5, qP1_5⟩ := XP_5.2.1 1 (by omega)
        obtain ⟨zP2_5, qP2_5⟩ := XP_5.2.1 2 (by omega)
        have fP_5 := XP_5.2.2; have lP_5 := XP_5.1
        obtain ⟨g0, g1, BE⟩ := IBox.box2 XE_5; obtain ⟨g2, g3, g4, BP⟩ := IBox.box3 XP_5
        clear qE0_5 qE1_5 qP0_5 qP1_5 qP2_5 fE_5 fP_5
        have e0 := BE.2.1 0 _ rfl; have e1 := BE.2.1 1 _ rfl; have p0 := BP.2.1 0 _ rfl; have p1 := BP.2.1 1 _ rfl; have p2 := BP.2.1 2 _ rfl; have ef := BE.2.2; have pf := BP.2.2
        go_wp2_with fail
        refine wp_region_x (fun w' => w'.cell? ⟨w1.heap.size, 0, none⟩ = some (.int .i64 g0) ∧ w'.cell? ⟨w1.heap.size, 1, none⟩ = some (.int .i64 g1) ∧ w'.cell? ⟨w1.heap.size + 1, 0, none⟩ = some (.int .i64 g2) ∧ w'.cell? ⟨w1.heap.size + 1, 1, none⟩ = some (.int .i64 r5) ∧ w'.cell? ⟨w1.heap.size + 1, 2, none⟩ = some (.int .i64 g4)) (fun i => decide (i < 3)) (by kernel_rfl) ?_ (fun hHeld => ?_)
        focus ((try dsimp only); (exact sCells qa7 qa7))
        refine wtk (v := ?_) 0 rfl ?_ (by assumption) ?_
        rotate_left
        focus (intro w hSw; (try dsimp only at hSw); go_simp; (try with_reducible rfl))
        (try simp only [Act.put, wz5, wz6, wz7])
        refine wtk (v := ?_) 1 rfl ?_ (by assumption) ?_
        rotate_left
        focus (intro w hSw; (try dsimp only at hSw); go_simp; (try with_reducible rfl))
        (try simp only [Act.put, wz5, wz6, wz7])
        refine wpAnyX_one 2 rfl (by kernel_rfl) (fun K hK => ?_)
        go_simp
        clear hHeld
        refine hK.out _ _ ?_ (fun hHeld => ?_)
        focus ((try dsimp only); (exact sCells qa7 qa7))
        clear hK K
        (try simp only [Act.put, wz5, wz6, wz7])
        refine wpAnyX_last (D := fun i => decide (i < 3)) 3 rfl (by kernel_rfl) (by rfl) (fun K hK => ?_)
        go_simp
        refine hK.out _ _ ?_
        clear hK K
        (try simp only [Act.put, wz5, wz6, wz7])
        refine wpAnyX_done (by kernel_rfl) ?_ _
        refine NoPanic.normal ?_
        go_wp2_with fail
        refine name_worldB (fun WF hWF => ?_)
        have XR : IBox WF (w.heap.size) 2 := by subst hWF; exact qa1
        have XS : IBox WF (w.heap.size + 1) 3 := by subst hWF; exact qa1
        have hCF : CurAt WF b (K + 10 + 2 + 6 + 2 + 2) := by subst hWF; exact qa2
        have hGF : ChgS (fun k => k = b) w WF := by subst hWF; exact qa6
        clear hWF
        obtain ⟨x0, k0⟩ := XR.2.1 0 (by omega)
        obtain ⟨x1, k1⟩ := XR.2.1 1 (by omega)
        obtain ⟨y0, m0⟩ := XS.2.1 0 (by omega)
        obtain ⟨y1, m1⟩ := XS.2.1 1 (by omega)
        obtain ⟨y2, m2⟩ := XS.2.1 2 (by omega)
        have kl := XR.1; have ml := XS.1
        refine bodyPost_ret (v := .tuple #[.agg #[.int .i64 x0, .int .i64 x1], .agg #[.int .i64 y0, .int .i64 y1, .int .i64 y2]]) (by simp [results, Tryz.results72, go_sem, kl, ml, k0, k1, m0, m1, m2]) rfl ?_
        exact ⟨x0, x1, y0, y1, y2, rfl, hCF.mono (by omega), hGF⟩
      · have hq4_1 : (r4 == 1) = false := by simpa using hs4_1
        by_cases hs4_2 : r4 = 2
        · subst hs4_2
          go_wp2_with fail
          refine (amongC (K := K + 10 + 2 + 6 + 2) ?_ ?_ ?_ ?_ ?_ ?_ ?_).mono ?_
          · exact qa2
          · omega
          · (first | rfl | (simp; done))
          · rfl
          · (simp; done)
          · (simp; done)
          · rfl
          rintro e5 w5 ⟨r5, rm5, rfl, hc5, hg5⟩
          clear rm5
          have hz5 := hg5.size
          (try simp only [wz1, wz2, wz3, wz4] at hz5)
          have XR_5 : IBox w5 (w.heap.size) 2 := by
            refine IBox.chg ?_ hg5 (by show ¬ _ = _; omega)
            exact qa1
          have XS_5 : IBox w5 (w.heap.size + 1) 3 := by
            refine IBox.chg ?_ hg5 (by show ¬ _ = _; omega)
            exact qa1
          have XE_5 : IBox w5 (w1.heap.size) 2 := by
            refine IBox.chg ?_ hg5 (by show ¬ _ = _; omega)
            exact qa1
          have XP_5 : IBox w5 (w1.heap.size + 1) 3 := by
            refine IBox.chg ?_ hg5 (by show ¬ _ = _; omega)
            exact qa1
          clear qR0_4 qR1_4 fR_4 XR_4 qS0_4 qS1_4 qS2_4 fS_4 XS_4 qE0_4 qE1_4 fE_4 XE_4 qP0_4 qP1_4 qP2_4 fP_4 XP_4
          clear hc4
          obtain ⟨zR0_5, qR0_5⟩ := XR_5.2.1 0 (by omega)
          obtain ⟨zR1_5, qR1_5⟩ := XR_5.2.1 1 (by omega)
          have fR_5 := XR_5.2.2; have lR_5 := XR_5.1
          obtain ⟨zS0_5, qS0_5⟩ := XS_5.2.1 0 (by omega)
          obtain ⟨zS1_5, qS1_5⟩ := XS_5.2.1 1 (by omega)
          obtain ⟨zS2_5, qS2_5⟩ := XS_5.2.1 2 (by omega)
          have fS_5 := XS_5.2.2; have lS_5 := XS_5.1
          obtain ⟨zE0_5, qE0_5⟩ := XE_5.2.1 0 (by omega)
          obtain ⟨zE1_5, qE1_5⟩ := XE_5.2.1 1 (by omega)
          have fE_5 := XE_5.2.2; have lE_5 := XE_5.1
          obtain ⟨zP0_5, qP0_5⟩ := XP_5.2.1 0 (by omega)
          obtain ⟨zP1_5, qP1_5⟩ := XP_5.2.1 1 (by omega)
          obtain ⟨zP2_5, qP2_5⟩ := XP_5.2.1 2 (by omega)
          have fP_5 := XP_5.2.2; have lP_5 := XP_5.1
          obtain ⟨g0, g1, BE⟩ := IBox.box2 XE_5; obtain ⟨g2, g3, g4, BP⟩ := IBox.box3 XP_5
          clear qE0_5 qE1_5 qP0_5 qP1_5 qP2_5 fE_5 fP_5
          have e0 := BE.2.1 0 _ rfl; have e1 := BE.2.1 1 _ rfl; have p0 := BP.2.1 0 _ rfl; have p1 := BP.2.1 1 _ rfl; have p2 := BP.2.1 2 _ rfl; have ef := BE.2.2; have pf := BP.2.2
          go_wp2_with fail
          refine wp_region_x (fun w' => w'.cell? ⟨w1.heap.size, 0, none⟩ = some (.int .i64 g0) ∧ w'.cell? ⟨w1.heap.size, 1, none⟩ = some (.int .i64 g1) ∧ w'.cell? ⟨w1.heap.size + 1, 0, none⟩ = some (.int .i64 g2) ∧ w'.cell? ⟨w1.heap.size + 1, 1, none⟩ = some (.int .i64 g3) ∧ w'.cell? ⟨w1.heap.size + 1, 2, none⟩ = some (.int .i64 r5)) (fun i => decide (i < 3)) (by kernel_rfl) ?_ (fun hHeld => ?_)
          focus ((try dsimp only); (exact sCells qa7 qa7))
          refine wtk (v := ?_) 0 rfl ?_ (by assumption) ?_
          rotate_left
          focus (intro w hSw; (try dsimp only at hSw); go_simp; (try with_reducible rfl))
          (try simp only [Act.put, wz5, wz6, wz7])
          refine wtk (v := ?_) 1 rfl ?_ (by assumption) ?_
          rotate_left
          focus (intro w hSw; (try dsimp only at hSw); go_simp; (try with_reducible rfl))
          (try simp only [Act.put, wz5, wz6, wz7])
          refine wpAnyX_one 2 rfl (by kernel_rfl) (fun K hK => ?_)
          go_simp
          clear hHeld
          refine hK.out _ _ ?_ (fun hHeld => ?_)
          focus ((try dsimp only); (exact sCells qa7 qa7))
          clear hK K
          (try simp only [Act.put, wz5, wz6, wz7])
          refine wpAnyX_last (D := fun i => decide (i < 3)) 3 rfl (by kernel_rfl) (by rfl) (fun K hK => ?_)
          go_simp
          refine hK.out _ _ ?_
          clear hK K
          (try simp only [Act.put, wz5, wz6, wz7])
          refine wpAnyX_done (by kernel_rfl) ?_ _
          refine NoPanic.normal ?_
          go_wp2_with fail
          refine name_worldB (fun WF hWF => ?_)
          have XR : IBox WF (w.heap.size) 2 := by subst hWF; exact qa1
          have XS : IBox WF (w.heap.size + 1) 3 := by subst hWF; exact qa1
          have hCF : CurAt WF b (K + 10 + 2 + 6 + 2 + 2) := by subst hWF; exact qa2
          have hGF : ChgS (fun k => k = b) w WF := by subst hWF; exact qa6
          clear hWF
          obtain ⟨x0, k0⟩ := XR.2.1 0 (by omega)
          obtain ⟨x1, k1⟩ := XR.2.1 1 (by omega)
          obtain ⟨y0, m0⟩ := XS.2.1 0 (by omega)
          obtain ⟨y1, m1⟩ := XS.2.1 1 (by omega)
          obtain ⟨y2, m2⟩ := XS.2.1 2 (by omega)
          have kl := XR.1; have ml := XS.1
          refine bodyPost_ret (v := .tuple #[.agg #[.int .i64 x0, .int .i64 x1], .agg #[.int .i64 y0, .int .i64 y1, .int .i64 y2]]) (by simp [results, Tryz.results72, go_sem, kl, ml, k0, k1, m0, m1, m2]) rfl ?_
          exact ⟨x0, x1, y0, y1, y2, rfl, hCF.mono (by omega), hGF⟩
        · have hq4_2 : (r4 == 2) = false := by simpa using hs4_2
          by_cases hs4_3 : r4 = 3
          · subst hs4_3
            go_wp2_with fail
            refine (anyCurveC (K := K + 10 + 2 + 6 + 2) ?_ ?_).mono ?_
            · exact qa2
            · omega
            rintro e5 w5 ⟨x5, y5, rfl, hc5, hg5⟩
            have hz5 := hg5.size
            (try simp only [wz1, wz2, wz3, wz4] at hz5)
            have XR_5 : IBox w5 (w.heap.size) 2 := by
              refine IBox.chg ?_ hg5 (by show ¬ _ = _; omega)
              exact qa1
            have XS_5 : IBox w5 (w.heap.size + 1) 3 := by
              refine IBox.chg ?_ hg5 (by show ¬ _ = _; omega)
              exact qa1
            have XE_5 : IBox w5 (w1.heap.size) 2 := by
              refine IBox.chg ?_ hg5 (by show ¬ _ = _; omega)
              exact qa1
            have XP_5 : IBox w5 (w1.heap.size + 1) 3 := by
              refine IBox.chg ?_ hg5 (by show ¬ _ = _; omega)
              exact qa1
            clear qR0_4 qR1_4 fR_4 XR_4 qS0_4 qS1_4 qS2_4 fS_4 XS_4 qE0_4 qE1_4 fE_4 XE_4 qP0_4 qP1_4 qP2_4 fP_4 XP_4
            clear hc4
            obtain ⟨zR0_5, qR0_5⟩ := XR_5.2.1 0 (by omega)
            obtain ⟨zR1_5, qR1_5⟩ := XR_5.2.1 1 (by omega)
            have fR_5 := XR_5.2.2; have lR_5 := XR_5.1
            obtain ⟨zS0_5, qS0_5⟩ := XS_5.2.1 0 (by omega)
            obtain ⟨zS1_5, qS1_5⟩ := XS_5.2.1 1 (by omega)
            obtain ⟨zS2_5, qS2_5⟩ := XS_5.2.1 2 (by omega)
            have fS_5 := XS_5.2.2; have lS_5 := XS_5.1
            obtain ⟨zE0_5, qE0_5⟩ := XE_5.2.1 0 (by omega)
            obtain ⟨zE1_5, qE1_5⟩ := XE_5.2.1 1 (by omega)
            have fE_5 := XE_5.2.2; have lE_5 := XE_5.1
            obtain ⟨zP0_5, qP0_5⟩ := XP_5.2.1 0 (by omega)
            obtain ⟨zP1_5, qP1_5⟩ := XP_5.2.1 1 (by omega)
            obtain ⟨zP2_5, qP2_5⟩ := XP_5.2.1 2 (by omega)
            have fP_5 := XP_5.2.2; have lP_5 := XP_5.1
            obtain ⟨g0, g1, BE⟩ := IBox.box2 XE_5; obtain ⟨g2, g3, g4, BP⟩ := IBox.box3 XP_5
            clear qE0_5 qE1_5 qP0_5 qP1_5 qP2_5 fE_5 fP_5
            have e0 := BE.2.1 0 _ rfl; have e1 := BE.2.1 1 _ rfl; have p0 := BP.2.1 0 _ rfl; have p1 := BP.2.1 1 _ rfl; have p2 := BP.2.1 2 _ rfl; have ef := BE.2.2; have pf := BP.2.2
            go_wp2_with fail
            refine wp_region_x (fun w' => w'.cell? ⟨w1.heap.size, 0, none⟩ = some (.int .i64 x5) ∧ w'.cell? ⟨w1.heap.size, 1, none⟩ = some (.int .i64 y5) ∧ w'.cell? ⟨w1.heap.size + 1, 0, none⟩ = some (.int .i64 g2) ∧ w'.cell? ⟨w1.heap.size + 1, 1, none⟩ = some (.int .i64 g3) ∧ w'.cell? ⟨w1.heap.size + 1, 2, none⟩ = some (.int .i64 g4)) (fun i => decide (i < 3)) (by kernel_rfl) ?_ (fun hHeld => ?_)
            focus ((try dsimp only); (exact sCells qa7 qa7))
            refine wtk (v := ?_) 0 rfl ?_ (by assumption) ?_
            rotate_left
            focus (intro w hSw; (try dsimp only at hSw); go_simp; (try with_reducible rfl))
            (try simp only [Act.put, wz5, wz6, wz7])
            refine wtk (v := ?_) 1 rfl ?_ (by assumption) ?_
            rotate_left
            focus (intro w hSw; (try dsimp only at hSw); go_simp; (try with_reducible rfl))
            (try simp only [Act.put, wz5, wz6, wz7])
            refine wpAnyX_one 2 rfl (by kernel_rfl) (fun K hK => ?_)
            go_simp
            clear hHeld
            refine hK.out _ _ ?_ (fun hHeld => ?_)
            focus ((try dsimp only); (exact sCells qa7 qa7))
            clear hK K
            (try simp only [Act.put, wz5, wz6, wz7])
            refine wpAnyX_last (D := fun i => decide (i < 3)) 3 rfl (by kernel_rfl) (by rfl) (fun K hK => ?_)
            go_simp
            refine hK.out _ _ ?_
            clear hK K
            (try simp only [Act.put, wz5, wz6, wz7])
            refine wpAnyX_done (by kernel_rfl) ?_ _
            refine NoPanic.normal ?_
            go_wp2_with fail
            refine name_worldB (fun WF hWF => ?_)
            have XR : IBox WF (w.heap.size) 2 := by subst hWF; exact qa1
            have XS : IBox WF (w.heap.size + 1) 3 := by subst hWF; exact qa1
            have hCF : CurAt WF b (K + 10 + 2 + 6 + 2 + 30) := by subst hWF; exact qa2
            have hGF : ChgS (fun k => k = b) w WF := by subst hWF; exact qa6
            clear hWF
            obtain ⟨x0, k0⟩ := XR.2.1 0 (by omega)
            obtain ⟨x1, k1⟩ := XR.2.1 1 (by omega)
            obtain ⟨y0, m0⟩ := XS.2.1 0 (by omega)
            obtain ⟨y1, m1⟩ := XS.2.1 1 (by omega)
            obtain ⟨y2, m2⟩ := XS.2.1 2 (by omega)
            have kl := XR.1; have ml := XS.1
            refine bodyPost_ret (v := .tuple #[.agg #[.int .i64 x0, .int .i64 x1], .agg #[.int .i64 y0, .int .i64 y1, .int .i64 y2]]) (by simp [results, Tryz.results72, go_sem, kl, ml, k0, k1, m0, m1, m2]) rfl ?_
            exact ⟨x0, x1, y0, y1, y2, rfl, hCF.mono (by omega), hGF⟩
          · have hq4_3 : (r4 == 3) = false := by simpa using hs4_3
            by_cases hs4_4 : r4 = 4
            · subst hs4_4
              go_wp2_with fail
              refine (amongC (K := K + 10 + 2 + 6 + 2) ?_ ?_ ?_ ?_ ?_ ?_ ?_).mono ?_
              · exact qa2
              · omega
              · (first | rfl | (simp; done))
              · rfl
              · (simp; done)
              · (simp; done)
              · rfl
              rintro e5 w5 ⟨r5, rm5, rfl, hc5, hg5⟩
              clear rm5
              have hz5 := hg5.size
              (try simp only [wz1, wz2, wz3, wz4] at hz5)
              have XR_5 : IBox w5 (w.heap.size) 2 := by
                refine IBox.chg ?_ hg5 (by show ¬ _ = _; omega)
                exact qa1
              have XS_5 : IBox w5 (w.heap.size + 1) 3 := by
                refine IBox.chg ?_ hg5 (by show ¬ _ = _; omega)
                exact qa1
              have XE_5 : IBox w5 (w1.heap.size) 2 := by
                refine IBox.chg ?_ hg5 (by show ¬ _ = _; omega)
                exact qa1
              have XP_5 : IBox w5 (w1.heap.size + 1) 3 := by
                refine IBox.chg ?_ hg5 (by show ¬ _ = _; omega)
                exact qa1
              clear qR0_4 qR1_4 fR_4 XR_4 qS0_4 qS1_4 qS2_4 fS_4 XS_4 qE0_4 qE1_4 fE_4 XE_4 qP0_4 qP1_4 qP2_4 fP_4 XP_4
              clear hc4
              obtain ⟨zR0_5, qR0_5⟩ := XR_5.2.1 0 (by omega)
              obtain ⟨zR1_5, qR1_5⟩ := XR_5.2.1 1 (by omega)
              have fR_5 := XR_5.2.2; have lR_5 := XR_5.1
              obtain ⟨zS0_5, qS0_5⟩ := XS_5.2.1 0 (by omega)
              obtain ⟨zS1_5, qS1_5⟩ := XS_5.2.1 1 (by omega)
              obtain ⟨zS2_5, qS2_5⟩ := XS_5.2.1 2 (by omega)
              have fS_5 := XS_5.2.2; have lS_5 := XS_5.1
              obtain ⟨zE0_5, qE0_5⟩ := XE_5.2.1 0 (by omega)
              obtain ⟨zE1_5, qE1_5⟩ := XE_5.2.1 1 (by omega)
              have fE_5 := XE_5.2.2; have lE_5 := XE_5.1
              obtain ⟨zP0_5, qP0_5⟩ := XP_5.2.1 0 (by omega)
              obtain ⟨zP1_5, qP1_5⟩ := XP_5.2.1 1 (by omega)
              obtain ⟨zP2_5, qP2_5⟩ := XP_5.2.1 2 (by omega)
              have fP_5 := XP_5.2.2; have lP_5 := XP_5.1
              go_wp2_with fail
              refine (amongC (K := K + 10 + 2 + 6 + 2 + 2) ?_ ?_ ?_ ?_ ?_ ?_ ?_).mono ?_
              · exact qa2
              · omega
              · (first | rfl | (simp; done))
              · rfl
              · (simp; done)
              · (simp; done)
              · rfl
              rintro e6 w6 ⟨r6, rm6, rfl, hc6, hg6⟩
              clear rm6
              have hz6 := hg6.size
              (try simp only [wz1, wz2, wz3, wz4] at hz6)
              have XR_6 : IBox w6 (w.heap.size) 2 := by
                refine IBox.chg ?_ hg6 (by show ¬ _ = _; omega)
                exact qa1
              have XS_6 : IBox w6 (w.heap.size + 1) 3 := by
                refine IBox.chg ?_ hg6 (by show ¬ _ = _; omega)
                exact qa1
              have XE_6 : IBox w6 (w1.heap.size) 2 := by
                refine IBox.chg ?_ hg6 (by show ¬ _ = _; omega)
                exact qa1
              have XP_6 : IBox w6 (w1.heap.size + 1) 3 := by
                refine IBox.chg ?_ hg6 (by show ¬ _ = _; omega)
                exact qa1
              clear qR0_5 qR1_5 fR_5 XR_5 qS0_5 qS1_5 qS2_5 fS_5 XS_5 qE0_5 qE1_5 fE_5 XE_5 qP0_5 qP1_5 qP2_5 fP_5 XP_5
              clear hc5
              obtain ⟨zR0_6, qR0_6⟩ := XR_6.2.1 0 (by omega)
              obtain ⟨zR1_6, qR1_6⟩ := XR_6.2.1 1 (by omega)
              have fR_6 := XR_6.2.2; have lR_6 := XR_6.1
              obtain ⟨zS0_6, qS0_6⟩ := XS_6.2.1 0 (by omega)
              obtain ⟨zS1_6, qS1_6⟩ := XS_6.2.1 1 (by omega)
              obtain ⟨zS2_6, qS2_6⟩ := XS_6.2.1 2 (by omega)
              have fS_6 := XS_6.2.2; have lS_6 := XS_6.1
              obtain ⟨zE0_6, qE0_6⟩ := XE_6.2.1 0 (by omega)
              obtain ⟨zE1_6, qE1_6⟩ := XE_6.2.1 1 (by omega)
              have fE_6 := XE_6.2.2; have lE_6 := XE_6.1
              obtain ⟨zP0_6, qP0_6⟩ := XP_6.2.1 0 (by omega)
              obtain ⟨zP1_6, qP1_6⟩ := XP_6.2.1 1 (by omega)
              obtain ⟨zP2_6, qP2_6⟩ := XP_6.2.1 2 (by omega)
              have fP_6 := XP_6.2.2; have lP_6 := XP_6.1
              go_wp2_with fail
              refine name_worldB (fun WF hWF => ?_)
              have XR : IBox WF (w.heap.size) 2 := by subst hWF; exact qa1
              have XS : IBox WF (w.heap.size + 1) 3 := by subst hWF; exact qa1
              have hCF : CurAt WF b (K + 10 + 2 + 6 + 2 + 2 + 2) := by subst hWF; exact qa2
              have hGF : ChgS (fun k => k = b) w WF := by subst hWF; exact qa6
              clear hWF
              obtain ⟨x0, k0⟩ := XR.2.1 0 (by omega)
              obtain ⟨x1, k1⟩ := XR.2.1 1 (by omega)
              obtain ⟨y0, m0⟩ := XS.2.1 0 (by omega)
              obtain ⟨y1, m1⟩ := XS.2.1 1 (by omega)
              obtain ⟨y2, m2⟩ := XS.2.1 2 (by omega)
              have kl := XR.1; have ml := XS.1
              refine bodyPost_ret (v := .tuple #[.agg #[.int .i64 x0, .int .i64 x1], .agg #[.int .i64 y0, .int .i64 y1, .int .i64 y2]]) (by simp [results, Tryz.results72, go_sem, kl, ml, k0, k1, m0, m1, m2]) rfl ?_
              exact ⟨x0, x1, y0, y1, y2, rfl, hCF.mono (by omega), hGF⟩
            · have hq4_4 : (r4 == 4) = false := by simpa using hs4_4
              obtain ⟨g0, g1, BE⟩ := IBox.box2 XE_4; obtain ⟨g2, g3, g4, BP⟩ := IBox.box3 XP_4
              clear qE0_4 qE1_4 qP0_4 qP1_4 qP2_4 fE_4 fP_4
              have e0 := BE.2.1 0 _ rfl; have e1 := BE.2.1 1 _ rfl; have p0 := BP.2.1 0 _ rfl; have p1 := BP.2.1 1 _ rfl; have p2 := BP.2.1 2 _ rfl; have ef := BE.2.2; have pf := BP.2.2
              go_wp2_with fail
              refine wp_region_x (fun w' => w'.cell? ⟨w1.heap.size, 0, none⟩ = some (.int .i64 g0) ∧ w'.cell? ⟨w1.heap.size, 1, none⟩ = some (.int .i64 g1) ∧ w'.cell? ⟨w1.heap.size + 1, 0, none⟩ = some (.int .i64 g2) ∧ w'.cell? ⟨w1.heap.size + 1, 1, none⟩ = some (.int .i64 g3) ∧ w'.cell? ⟨w1.heap.size + 1, 2, none⟩ = some (.int .i64 g4)) (fun i => decide (i < 3)) (by kernel_rfl) ?_ (fun hHeld => ?_)
              focus ((try dsimp only); (exact sCells qa7 qa7))
              refine wtk (v := ?_) 0 rfl ?_ (by assumption) ?_
              rotate_left
              focus (intro w hSw; (try dsimp only at hSw); go_simp; (try with_reducible rfl))
              (try simp only [Act.put, wz5, wz6, wz7])
              refine wtk (v := ?_) 1 rfl ?_ (by assumption) ?_
              rotate_left
              focus (intro w hSw; (try dsimp only at hSw); go_simp; (try with_reducible rfl))
              (try simp only [Act.put, wz5, wz6, wz7])
              refine wpAnyX_one 2 rfl (by kernel_rfl) (fun K hK => ?_)
              go_simp
              clear hHeld
              refine hK.out _ _ ?_ (fun hHeld => ?_)
              focus ((try dsimp only); (exact sCells qa7 qa7))
              clear hK K
              (try simp only [Act.put, wz5, wz6, wz7])
              refine wpAnyX_last (D := fun i => decide (i < 3)) 3 rfl (by kernel_rfl) (by rfl) (fun K hK => ?_)
              go_simp
              refine hK.out _ _ ?_
              clear hK K
              (try simp only [Act.put, wz5, wz6, wz7])
              refine wpAnyX_done (by kernel_rfl) ?_ _
              refine NoPanic.normal ?_
              go_wp2_with fail
              refine name_worldB (fun WF hWF => ?_)
              have XR : IBox WF (w.heap.size) 2 := by subst hWF; exact qa1
              have XS : IBox WF (w.heap.size + 1) 3 := by subst hWF; exact qa1
              have hCF : CurAt WF b (K + 10 + 2 + 6 + 2) := by subst hWF; exact qa2
              have hGF : ChgS (fun k => k = b) w WF := by subst hWF; exact qa6
              clear hWF
              obtain ⟨x0, k0⟩ := XR.2.1 0 (by omega)
              obtain ⟨x1, k1⟩ := XR.2.1 1 (by omega)
              obtain ⟨y0, m0⟩ := XS.2.1 0 (by omega)
              obtain ⟨y1, m1⟩ := XS.2.1 1 (by omega)
              obtain ⟨y2, m2⟩ := XS.2.1 2 (by omega)
              have kl := XR.1; have ml := XS.1
              refine bodyPost_ret (v := .tuple #[.agg #[.int .i64 x0, .int .i64 x1], .agg #[.int .i64 y0, .int .i64 y1, .int .i64 y2]]) (by simp [results, Tryz.results72, go_sem, kl, ml, k0, k1, m0, m1, m2]) rfl ?_
              exact ⟨x0, x1, y0, y1, y2, rfl, hCF.mono (by omega), hGF⟩
end Go.Proofs.YtjgdajeoeagggaaGreat
