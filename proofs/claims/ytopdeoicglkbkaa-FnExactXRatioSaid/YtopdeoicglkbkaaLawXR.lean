import Derived.Test.YtopdeoicglkbkaaXR
import Derived.Test.YtopdeoicglkbkaaFracB
set_option linter.unusedSimpArgs false
set_option linter.unusedVariables false
namespace Go.Proofs.Ytopdeoicglkbkaa
open Go.RowKit

theorem xrX_len (a b x y e : Int) : (xrX a b x y e).length ≤ 1000 := by
  unfold xrX
  split
  · rename_i g
    obtain ⟨r1, r2, r3⟩ := xr_rng g
    have := dg_len x.natAbs (by omega); omega
  · simp
theorem xrY_len (a b x y e : Int) : (xrY a b x y e).length ≤ 1000 := by
  unfold xrY
  split
  · rename_i g
    obtain ⟨r1, r2, r3⟩ := xr_rng g
    have := dg_len (e * e).natAbs (by omega); omega
  · simp
set_option maxRecDepth 100000 in
set_option maxHeartbeats 4000000 in
theorem walk_FnExactXRatio (a b : Int) (x y e : Int) (w : World) (_w_a : (Lit.int .i64 a).wf = true) (_w_b : (Lit.int .i64 b).wf = true) (_w_x : (Lit.int .i64 x).wf = true) (_w_y : (Lit.int .i64 y).wf = true) (_w_e : (Lit.int .i64 e).wf = true) : Calls Try.prog 4 #[.agg #[.int .i64 a, .int .i64 b], .agg #[.int .i64 x, .int .i64 y, .int .i64 e]] w (Gives (.bool true) w) := by
  have HS := Lib.hid (fun  W => sXRatio_any a b x y e W)
  have HI := Lib.hid (fun  W => XRatio_any a b x y e W)
  have hL1 := xrX_len a b x y e
  have hL2 := xrY_len a b x y e
  generalize xrOk a b x y e = ok at *
  generalize xrN a b x y e = rn at *
  generalize xrX a b x y e = RX at *
  generalize xrD a b x y e = rm at *
  generalize xrY a b x y e = RY at *
  go_enter Try.func4, Try.ntmps4
  go_upto_region 1 with fail
  refine name_world (fun V0 hV0 => ?_)
  have B1 : Box V0 (w.heap.size) [.int .i64 a, .int .i64 b] := by subst hV0; exact box_two (by first | (simp; done) | (simp; omega)) (by simp [go_sem]) (by simp [go_sem]) (fun o => by simp [go_sem])
  have B2 : Box V0 (w.heap.size + 1) [.int .i64 x, .int .i64 y, .int .i64 e] := by subst hV0; exact box_three (by first | (simp; done) | (simp; omega)) (by simp [go_sem]) (by simp [go_sem]) (by simp [go_sem]) (fun o => by simp [go_sem])
  have hB : Below w.heap.size w V0 := by subst hV0; exact (by repeat' (first | (with_reducible exact Below.refl _ _) | (with_reducible assumption) | (with_reducible refine Below.alloc ?_ ?_ _) | (with_reducible refine Below.setCell ?_ ?_ _) | (with_reducible refine Below.drew ?_) | (with_reducible refine below_drewN ?_ _) | (apply bthen2; (with_reducible assumption)) | go_size))
  have hV1 : V0.heap.size ≤ w.heap.size + 1 + 1 ∧ w.heap.size + 1 + 1 ≤ V0.heap.size := by subst hV0; simp
  clear hV0
  try go_upto_region 1 with fail
  go_cut [5, 6] (fun s5 s6 wx => ∃ (bx : Nat) (a : Option Addr) (l c : Nat) (b : Option Addr) (m d lo hi : Nat), s5 = .pointer (some ⟨bx, 0, none⟩) ∧ s6 = .bool ok ∧ Box wx bx [.bool rn, .slice a l c, .bool rm, .slice b m d] ∧ Seg wx lo hi (.slice a l c) RX ∧ Seg wx lo hi (.slice b m d) RY ∧ (∀ k, (Value.slice a l c).ownBlock = some k → (Value.slice b m d).ownBlock ≠ some k) ∧ V0.heap.size ≤ lo ∧ hi ≤ wx.heap.size ∧ V0.heap.size ≤ bx ∧ (bx < lo ∨ hi ≤ bx) ∧ Below V0.heap.size V0 wx)
  case first =>
    go_region_held3 (fun w' => Below V0.heap.size V0 w' ∧ w'.cell? ⟨w.heap.size, 0, none⟩ = some (.int .i64 a) ∧ w'.cell? ⟨w.heap.size, 1, none⟩ = some (.int .i64 b) ∧ w'.cell? ⟨w.heap.size + 1, 0, none⟩ = some (.int .i64 x) ∧ w'.cell? ⟨w.heap.size + 1, 1, none⟩ = some (.int .i64 y) ∧ w'.cell? ⟨w.heap.size + 1, 2, none⟩ = some (.int .i64 e)) ((refine (fun hbK => And.intro hbK (by exact ⟨(hbK.cell (p := ⟨w.heap.size, 0, none⟩) (B1).1).trans (B1.2.1 0 _ rfl), (hbK.cell (p := ⟨w.heap.size, 1, none⟩) (B1).1).trans (B1.2.1 1 _ rfl), (hbK.cell (p := ⟨w.heap.size + 1, 0, none⟩) (B2).1).trans (B2.2.1 0 _ rfl), (hbK.cell (p := ⟨w.heap.size + 1, 1, none⟩) (B2).1).trans (B2.2.1 1 _ rfl), (hbK.cell (p := ⟨w.heap.size + 1, 2, none⟩) (B2).1).trans (B2.2.1 2 _ rfl)⟩)) ?_; repeat' (first | (with_reducible exact Below.refl _ _) | (with_reducible assumption) | (with_reducible refine Below.alloc ?_ ?_ _) | (with_reducible refine Below.setCell ?_ ?_ _) | (with_reducible refine Below.drew ?_) | (with_reducible refine below_drewN ?_ _) | (apply bthen2; (with_reducible assumption)) | go_size))) ((first | (go_at_call 20; refine (toCurve_any a b _).mono ?_; rintro e ua ⟨rfl, hba⟩; have hza := hba.size; (try simp only [World.size_alloc, World.size_setCell, World.size_drew, World.heap_drewN] at hza); try (have qB := Box.below (by first | exact box_made2 _ _ _ _ | exact box_made4 _ _ _ _ _ _ | (with_reducible assumption)) hba; (try simp only [World.size_drew, World.heap_drewN] at qB); have qB0 := qB.2.1 0 _ rfl; have qB1 := qB.2.1 1 _ rfl; (try have qB2 := qB.2.1 2 _ rfl); (try have qB3 := qB.2.1 3 _ rfl); have qBf := qB.2.2)) | (go_at_call 21; refine (toPoint_any x y e _).mono ?_; rintro e ub ⟨rfl, hbb⟩; have hzb := hbb.size; (try simp only [World.size_alloc, World.size_setCell, World.size_drew, World.heap_drewN] at hzb); try (have qB := Box.below (by first | exact box_made2 _ _ _ _ | exact box_made4 _ _ _ _ _ _ | (with_reducible assumption)) hbb; (try simp only [World.size_drew, World.heap_drewN] at qB); have qB0 := qB.2.1 0 _ rfl; have qB1 := qB.2.1 1 _ rfl; (try have qB2 := qB.2.1 2 _ rfl); (try have qB3 := qB.2.1 3 _ rfl); have qBf := qB.2.2)) | (go_at_call 19; refine (HS.out  _ ).mono ?_; rintro e uz ⟨raz, rlz, rcz, rbz, rmz, rdz, rfl, Tz, hbz⟩; obtain ⟨loz, hiz, sgz, shz, hdz, hlz, hhz⟩ := Tz.segT hbz; (try simp only [World.size_alloc, World.size_setCell, World.size_drew, World.heap_drewN] at hlz); have hzz := hbz.size; (try simp only [World.size_alloc, World.size_setCell, World.size_drew, World.heap_drewN] at hzz); try (have qB := Box.below (by first | exact box_made2 _ _ _ _ | exact box_made4 _ _ _ _ _ _ | (with_reducible assumption)) hbz; (try simp only [World.size_drew, World.heap_drewN] at qB); have qB0 := qB.2.1 0 _ rfl; have qB1 := qB.2.1 1 _ rfl; (try have qB2 := qB.2.1 2 _ rfl); (try have qB3 := qB.2.1 3 _ rfl); have qBf := qB.2.2))))
    all_goals (go_wp2_with fail; go_meet; exact ⟨_, raz, rlz, rcz, rbz, rmz, rdz, loz, hiz, rfl, rfl, (by first | (with_reducible exact box_made4 _ _ _ _ _ _) | (exact Box.set (Box.set (Box.set (Box.set (vs := [_, _, _, _]) (by first | assumption | exact box_made4 _ _ _ _ _ _) 0 (by simp) _) 1 (by simp) _) 2 (by simp) _) 3 (by simp) _)), (by (repeat' (first | (with_reducible assumption) | (with_reducible refine Seg.set ?_ ?_ _) | (with_reducible refine Seg.alloc ?_ _) | (with_reducible refine Seg.drew ?_))); all_goals (first | omega | (simp; done) | (simp; omega))), (by (repeat' (first | (with_reducible assumption) | (with_reducible refine Seg.set ?_ ?_ _) | (with_reducible refine Seg.alloc ?_ _) | (with_reducible refine Seg.drew ?_))); all_goals (first | omega | (simp; done) | (simp; omega))), hdz, (by first | omega | (simp; done) | (simp; omega)), (by first | omega | (simp; done) | (simp; omega)), (by first | omega | (simp; done) | (simp; omega)), (by first | omega | (simp; done) | (simp; omega)), (by repeat' (first | (with_reducible exact Below.refl _ _) | (with_reducible assumption) | (with_reducible refine Below.alloc ?_ ?_ _) | (with_reducible refine Below.setCell ?_ ?_ _) | (with_reducible refine Below.drew ?_) | (with_reducible refine below_drewN ?_ _) | (apply bthen2; (with_reducible assumption)) | go_size))⟩)
  case rest =>
  obtain ⟨bx4, a4_, l4_, c4_, b4_, m4_, d4_, lo4, hi4, rfl, rfl, B4, S4, R4, D4, o4a, o4b, o4c, o4d, hb⟩ := hcut
  obtain ⟨V3, hV⟩ : ∃ x, x = wc := ⟨_, rfl⟩
  subst hV
  have hu4 := B4.1
  have hz5 := hb.size
  have B6 := B1.below hb
  have B7 := B2.below hb
  have hB : Below w.heap.size w V3 := hB.trans (hb.mono hB.size)
  clear B1 B2 hb
  try go_upto_region 2 with fail
  go_cut [7, 8] (fun s7 s8 wx => ∃ (bx : Nat) (a : Option Addr) (l c : Nat) (b : Option Addr) (m d lo hi : Nat), s7 = .pointer (some ⟨bx, 0, none⟩) ∧ s8 = .bool ok ∧ Box wx bx [.bool rn, .slice a l c, .bool rm, .slice b m d] ∧ Seg wx lo hi (.slice a l c) RX ∧ Seg wx lo hi (.slice b m d) RY ∧ (∀ k, (Value.slice a l c).ownBlock = some k → (Value.slice b m d).ownBlock ≠ some k) ∧ V3.heap.size ≤ lo ∧ hi ≤ wx.heap.size ∧ V3.heap.size ≤ bx ∧ (bx < lo ∨ hi ≤ bx) ∧ Below V3.heap.size V3 wx)
  case first =>
    go_region_held3 (fun w' => Below V3.heap.size V3 w' ∧ w'.cell? ⟨w.heap.size, 0, none⟩ = some (.int .i64 a) ∧ w'.cell? ⟨w.heap.size, 1, none⟩ = some (.int .i64 b) ∧ w'.cell? ⟨w.heap.size + 1, 0, none⟩ = some (.int .i64 x) ∧ w'.cell? ⟨w.heap.size + 1, 1, none⟩ = some (.int .i64 y) ∧ w'.cell? ⟨w.heap.size + 1, 2, none⟩ = some (.int .i64 e)) ((refine (fun hbK => And.intro hbK (by exact ⟨(hbK.cell (p := ⟨w.heap.size, 0, none⟩) (B6).1).trans (B6.2.1 0 _ rfl), (hbK.cell (p := ⟨w.heap.size, 1, none⟩) (B6).1).trans (B6.2.1 1 _ rfl), (hbK.cell (p := ⟨w.heap.size + 1, 0, none⟩) (B7).1).trans (B7.2.1 0 _ rfl), (hbK.cell (p := ⟨w.heap.size + 1, 1, none⟩) (B7).1).trans (B7.2.1 1 _ rfl), (hbK.cell (p := ⟨w.heap.size + 1, 2, none⟩) (B7).1).trans (B7.2.1 2 _ rfl)⟩)) ?_; repeat' (first | (with_reducible exact Below.refl _ _) | (with_reducible assumption) | (with_reducible refine Below.alloc ?_ ?_ _) | (with_reducible refine Below.setCell ?_ ?_ _) | (with_reducible refine Below.drew ?_) | (with_reducible refine below_drewN ?_ _) | (apply bthen2; (with_reducible assumption)) | go_size))) ((first | (go_at_call 20; refine (toCurve_any a b _).mono ?_; rintro e ua ⟨rfl, hba⟩; have hza := hba.size; (try simp only [World.size_alloc, World.size_setCell, World.size_drew, World.heap_drewN] at hza); try (have qB := Box.below (by first | exact box_made2 _ _ _ _ | exact box_made4 _ _ _ _ _ _ | (with_reducible assumption)) hba; (try simp only [World.size_drew, World.heap_drewN] at qB); have qB0 := qB.2.1 0 _ rfl; have qB1 := qB.2.1 1 _ rfl; (try have qB2 := qB.2.1 2 _ rfl); (try have qB3 := qB.2.1 3 _ rfl); have qBf := qB.2.2)) | (go_at_call 21; refine (toPoint_any x y e _).mono ?_; rintro e ub ⟨rfl, hbb⟩; have hzb := hbb.size; (try simp only [World.size_alloc, World.size_setCell, World.size_drew, World.heap_drewN] at hzb); try (have qB := Box.below (by first | exact box_made2 _ _ _ _ | exact box_made4 _ _ _ _ _ _ | (with_reducible assumption)) hbb; (try simp only [World.size_drew, World.heap_drewN] at qB); have qB0 := qB.2.1 0 _ rfl; have qB1 := qB.2.1 1 _ rfl; (try have qB2 := qB.2.1 2 _ rfl); (try have qB3 := qB.2.1 3 _ rfl); have qBf := qB.2.2)) | (go_at_call 22; refine (HI.out  _ ).mono ?_; rintro e uz ⟨raz, rlz, rcz, rbz, rmz, rdz, rfl, Tz, hbz⟩; obtain ⟨loz, hiz, sgz, shz, hdz, hlz, hhz⟩ := Tz.segT hbz; (try simp only [World.size_alloc, World.size_setCell, World.size_drew, World.heap_drewN] at hlz); have hzz := hbz.size; (try simp only [World.size_alloc, World.size_setCell, World.size_drew, World.heap_drewN] at hzz); try (have qB := Box.below (by first | exact box_made2 _ _ _ _ | exact box_made4 _ _ _ _ _ _ | (with_reducible assumption)) hbz; (try simp only [World.size_drew, World.heap_drewN] at qB); have qB0 := qB.2.1 0 _ rfl; have qB1 := qB.2.1 1 _ rfl; (try have qB2 := qB.2.1 2 _ rfl); (try have qB3 := qB.2.1 3 _ rfl); have qBf := qB.2.2))))
    all_goals (go_wp2_with fail; go_meet; exact ⟨_, raz, rlz, rcz, rbz, rmz, rdz, loz, hiz, rfl, rfl, (by first | (with_reducible exact box_made4 _ _ _ _ _ _) | (exact Box.set (Box.set (Box.set (Box.set (vs := [_, _, _, _]) (by first | assumption | exact box_made4 _ _ _ _ _ _) 0 (by simp) _) 1 (by simp) _) 2 (by simp) _) 3 (by simp) _)), (by (repeat' (first | (with_reducible assumption) | (with_reducible refine Seg.set ?_ ?_ _) | (with_reducible refine Seg.alloc ?_ _) | (with_reducible refine Seg.drew ?_))); all_goals (first | omega | (simp; done) | (simp; omega))), (by (repeat' (first | (with_reducible assumption) | (with_reducible refine Seg.set ?_ ?_ _) | (with_reducible refine Seg.alloc ?_ _) | (with_reducible refine Seg.drew ?_))); all_goals (first | omega | (simp; done) | (simp; omega))), hdz, (by first | omega | (simp; done) | (simp; omega)), (by first | omega | (simp; done) | (simp; omega)), (by first | omega | (simp; done) | (simp; omega)), (by first | omega | (simp; done) | (simp; omega)), (by repeat' (first | (with_reducible exact Below.refl _ _) | (with_reducible assumption) | (with_reducible refine Below.alloc ?_ ?_ _) | (with_reducible refine Below.setCell ?_ ?_ _) | (with_reducible refine Below.drew ?_) | (with_reducible refine below_drewN ?_ _) | (apply bthen2; (with_reducible assumption)) | go_size))⟩)
  case rest =>
  obtain ⟨bx9, a9_, l9_, c9_, b9_, m9_, d9_, lo9, hi9, rfl, rfl, B9, S9, R9, D9, o9a, o9b, o9c, o9d, hb⟩ := hcut
  obtain ⟨V8, hV⟩ : ∃ x, x = wc := ⟨_, rfl⟩
  subst hV
  have hu9 := B9.1
  have hz10 := hb.size
  have B11 := B6.below hb
  have B12 := B7.below hb
  have B13 := B4.below hb
  have S14 := S4.belowS hb
  have S15 := R4.belowS hb
  have hB : Below w.heap.size w V8 := hB.trans (hb.mono hB.size)
  clear B6 B7 B4 S4 R4 hb
  have B9_0 := B9.2.1 0 _ rfl
  have B9_1 := B9.2.1 1 _ rfl
  have B9_2 := B9.2.1 2 _ rfl
  have B9_3 := B9.2.1 3 _ rfl
  have B13_0 := B13.2.1 0 _ rfl
  have B13_1 := B13.2.1 1 _ rfl
  have B13_2 := B13.2.1 2 _ rfl
  have B13_3 := B13.2.1 3 _ rfl
  go_wp2_with fail
  refine (eqRatio_same _ _ _ _ _ _ _ _ _ _ _ _ _ _ RX RY _ ?_ ?_ ?_ ?_).mono ?_
  · exact S9.ints
  · exact R9.ints
  · exact S14.ints
  · exact S15.ints
  rintro e V16 ⟨rfl, hb⟩
  clear B9_0 B9_1 B9_2 B9_3 B13_0 B13_1 B13_2 B13_3
  have hz17 := hb.size
  have B18 := B11.below hb
  have B19 := B12.below hb
  have B20 := B13.below hb
  have B21 := B9.below hb
  have S22 := S14.belowS hb
  have S23 := S15.belowS hb
  have S24 := S9.belowS hb
  have S25 := R9.belowS hb
  have hB : Below w.heap.size w V16 := hB.trans (hb.mono hB.size)
  clear B11 B12 B13 B9 S14 S15 S9 R9 hb
  have B21_0 := B21.2.1 0 _ rfl
  have B21_1 := B21.2.1 1 _ rfl
  have B21_2 := B21.2.1 2 _ rfl
  have B21_3 := B21.2.1 3 _ rfl
  go_wp2_with fail
  refine (markRatio_T _ _ _ _ _ _ _ _ _ _ _ _ (1) _ S24 S25 D9 (by omega) (by omega)).mono ?_
  rintro e V26 ⟨rfl, S27, S28, hc⟩
  clear B21_0 B21_1 B21_2 B21_3
  have hz29 := hc.size
  have q0 := B18.1
  have B30 := B18.chg hc (by intro e; rcases e with e | e <;> first | (have q1 := S24.rng e; omega) | (have q1 := S25.rng e; omega))
  clear q0
  have q0 := B19.1
  have B31 := B19.chg hc (by intro e; rcases e with e | e <;> first | (have q1 := S24.rng e; omega) | (have q1 := S25.rng e; omega))
  clear q0
  have q0 := B20.1
  have B32 := B20.chg hc (by intro e; rcases e with e | e <;> first | (have q1 := S24.rng e; omega) | (have q1 := S25.rng e; omega))
  clear q0
  have q0 := B21.1
  have B33 := B21.chg hc (by intro e; rcases e with e | e <;> first | (have q1 := S24.rng e; omega) | (have q1 := S25.rng e; omega))
  clear q0
  have S34 := S22.chgS hc (by intro k hk e; rcases e with e | e <;> first | (have q1 := S24.rng e; have q2 := S22.rng hk; omega) | (have q1 := S25.rng e; have q2 := S22.rng hk; omega))
  have S35 := S23.chgS hc (by intro k hk e; rcases e with e | e <;> first | (have q1 := S24.rng e; have q2 := S23.rng hk; omega) | (have q1 := S25.rng e; have q2 := S23.rng hk; omega))
  have hB : Below w.heap.size w V26 := hB.trans (hc.below (by intro k e; rcases e with e | e <;> first | (have q1 := S24.rng e; omega) | (have q1 := S25.rng e; omega)) hB.size)
  clear B18 B19 B20 B21 S22 S23 S24 S25 hc
  have B33_0 := B33.2.1 0 _ rfl
  have B33_1 := B33.2.1 1 _ rfl
  have B33_2 := B33.2.1 2 _ rfl
  have B33_3 := B33.2.1 3 _ rfl
  go_wp2_with fail
  refine (heldRatio_any _ _ _ _ _ _ _ _ RX.length RY.length 1 _ ?_ ?_ (by omega) (by omega)).mono ?_
  · exact S27.ints
  · exact S28.ints
  rintro e V38 ⟨rfl, hb⟩
  clear B33_0 B33_1 B33_2 B33_3
  have hz39 := hb.size
  have B40 := B30.below hb
  have B41 := B31.below hb
  have B42 := B32.below hb
  have B43 := B33.below hb
  have S44 := S34.belowS hb
  have S45 := S35.belowS hb
  have S46 := S27.belowS hb
  have S47 := S28.belowS hb
  have hB : Below w.heap.size w V38 := hB.trans (hb.mono hB.size)
  clear B30 B31 B32 B33 S34 S35 S27 S28 hb
  try go_upto_region 13 with fail
  go_cut [11, 12] (fun s11 s12 wx => ∃ (bx : Nat) (a : Option Addr) (l c : Nat) (b : Option Addr) (m d lo hi : Nat), s11 = .pointer (some ⟨bx, 0, none⟩) ∧ s12 = .bool ok ∧ Box wx bx [.bool rn, .slice a l c, .bool rm, .slice b m d] ∧ Seg wx lo hi (.slice a l c) RX ∧ Seg wx lo hi (.slice b m d) RY ∧ (∀ k, (Value.slice a l c).ownBlock = some k → (Value.slice b m d).ownBlock ≠ some k) ∧ V38.heap.size ≤ lo ∧ hi ≤ wx.heap.size ∧ V38.heap.size ≤ bx ∧ (bx < lo ∨ hi ≤ bx) ∧ Below V38.heap.size V38 wx)
  case first =>
    go_region_held3 (fun w' => Below V38.heap.size V38 w' ∧ w'.cell? ⟨w.heap.size, 0, none⟩ = some (.int .i64 a) ∧ w'.cell? ⟨w.heap.size, 1, none⟩ = some (.int .i64 b) ∧ w'.cell? ⟨w.heap.size + 1, 0, none⟩ = some (.int .i64 x) ∧ w'.cell? ⟨w.heap.size + 1, 1, none⟩ = some (.int .i64 y) ∧ w'.cell? ⟨w.heap.size + 1, 2, none⟩ = some (.int .i64 e)) ((refine (fun hbK => And.intro hbK (by exact ⟨(hbK.cell (p := ⟨w.heap.size, 0, none⟩) (B40).1).trans (B40.2.1 0 _ rfl), (hbK.cell (p := ⟨w.heap.size, 1, none⟩) (B40).1).trans (B40.2.1 1 _ rfl), (hbK.cell (p := ⟨w.heap.size + 1, 0, none⟩) (B41).1).trans (B41.2.1 0 _ rfl), (hbK.cell (p := ⟨w.heap.size + 1, 1, none⟩) (B41).1).trans (B41.2.1 1 _ rfl), (hbK.cell (p := ⟨w.heap.size + 1, 2, none⟩) (B41).1).trans (B41.2.1 2 _ rfl)⟩)) ?_; repeat' (first | (with_reducible exact Below.refl _ _) | (with_reducible assumption) | (with_reducible refine Below.alloc ?_ ?_ _) | (with_reducible refine Below.setCell ?_ ?_ _) | (with_reducible refine Below.drew ?_) | (with_reducible refine below_drewN ?_ _) | (apply bthen2; (with_reducible assumption)) | go_size))) ((first | (go_at_call 20; refine (toCurve_any a b _).mono ?_; rintro e ua ⟨rfl, hba⟩; have hza := hba.size; (try simp only [World.size_alloc, World.size_setCell, World.size_drew, World.heap_drewN] at hza); try (have qB := Box.below (by first | exact box_made2 _ _ _ _ | exact box_made4 _ _ _ _ _ _ | (with_reducible assumption)) hba; (try simp only [World.size_drew, World.heap_drewN] at qB); have qB0 := qB.2.1 0 _ rfl; have qB1 := qB.2.1 1 _ rfl; (try have qB2 := qB.2.1 2 _ rfl); (try have qB3 := qB.2.1 3 _ rfl); have qBf := qB.2.2)) | (go_at_call 21; refine (toPoint_any x y e _).mono ?_; rintro e ub ⟨rfl, hbb⟩; have hzb := hbb.size; (try simp only [World.size_alloc, World.size_setCell, World.size_drew, World.heap_drewN] at hzb); try (have qB := Box.below (by first | exact box_made2 _ _ _ _ | exact box_made4 _ _ _ _ _ _ | (with_reducible assumption)) hbb; (try simp only [World.size_drew, World.heap_drewN] at qB); have qB0 := qB.2.1 0 _ rfl; have qB1 := qB.2.1 1 _ rfl; (try have qB2 := qB.2.1 2 _ rfl); (try have qB3 := qB.2.1 3 _ rfl); have qBf := qB.2.2)) | (go_at_call 22; refine (HI.out  _ ).mono ?_; rintro e uz ⟨raz, rlz, rcz, rbz, rmz, rdz, rfl, Tz, hbz⟩; obtain ⟨loz, hiz, sgz, shz, hdz, hlz, hhz⟩ := Tz.segT hbz; (try simp only [World.size_alloc, World.size_setCell, World.size_drew, World.heap_drewN] at hlz); have hzz := hbz.size; (try simp only [World.size_alloc, World.size_setCell, World.size_drew, World.heap_drewN] at hzz); try (have qB := Box.below (by first | exact box_made2 _ _ _ _ | exact box_made4 _ _ _ _ _ _ | (with_reducible assumption)) hbz; (try simp only [World.size_drew, World.heap_drewN] at qB); have qB0 := qB.2.1 0 _ rfl; have qB1 := qB.2.1 1 _ rfl; (try have qB2 := qB.2.1 2 _ rfl); (try have qB3 := qB.2.1 3 _ rfl); have qBf := qB.2.2))))
    all_goals (go_wp2_with fail; go_meet; exact ⟨_, raz, rlz, rcz, rbz, rmz, rdz, loz, hiz, rfl, rfl, (by first | (with_reducible exact box_made4 _ _ _ _ _ _) | (exact Box.set (Box.set (Box.set (Box.set (vs := [_, _, _, _]) (by first | assumption | exact box_made4 _ _ _ _ _ _) 0 (by simp) _) 1 (by simp) _) 2 (by simp) _) 3 (by simp) _)), (by (repeat' (first | (with_reducible assumption) | (with_reducible refine Seg.set ?_ ?_ _) | (with_reducible refine Seg.alloc ?_ _) | (with_reducible refine Seg.drew ?_))); all_goals (first | omega | (simp; done) | (simp; omega))), (by (repeat' (first | (with_reducible assumption) | (with_reducible refine Seg.set ?_ ?_ _) | (with_reducible refine Seg.alloc ?_ _) | (with_reducible refine Seg.drew ?_))); all_goals (first | omega | (simp; done) | (simp; omega))), hdz, (by first | omega | (simp; done) | (simp; omega)), (by first | omega | (simp; done) | (simp; omega)), (by first | omega | (simp; done) | (simp; omega)), (by first | omega | (simp; done) | (simp; omega)), (by repeat' (first | (with_reducible exact Below.refl _ _) | (with_reducible assumption) | (with_reducible refine Below.alloc ?_ ?_ _) | (with_reducible refine Below.setCell ?_ ?_ _) | (with_reducible refine Below.drew ?_) | (with_reducible refine below_drewN ?_ _) | (apply bthen2; (with_reducible assumption)) | go_size))⟩)
  case rest =>
  obtain ⟨bx49, a49_, l49_, c49_, b49_, m49_, d49_, lo49, hi49, rfl, rfl, B49, S49, R49, D49, o49a, o49b, o49c, o49d, hb⟩ := hcut
  obtain ⟨V48, hV⟩ : ∃ x, x = wc := ⟨_, rfl⟩
  subst hV
  have hu49 := B49.1
  have hz50 := hb.size
  have B51 := B40.below hb
  have B52 := B41.below hb
  have B53 := B42.below hb
  have B54 := B43.below hb
  have S55 := S44.belowS hb
  have S56 := S45.belowS hb
  have S57 := S46.belowS hb
  have S58 := S47.belowS hb
  have hB : Below w.heap.size w V48 := hB.trans (hb.mono hB.size)
  clear B40 B41 B42 B43 S44 S45 S46 S47 hb
  have B49_0 := B49.2.1 0 _ rfl
  have B49_1 := B49.2.1 1 _ rfl
  have B49_2 := B49.2.1 2 _ rfl
  have B49_3 := B49.2.1 3 _ rfl
  have B53_0 := B53.2.1 0 _ rfl
  have B53_1 := B53.2.1 1 _ rfl
  have B53_2 := B53.2.1 2 _ rfl
  have B53_3 := B53.2.1 3 _ rfl
  go_wp2_with fail
  refine (eqRatio_same _ _ _ _ _ _ _ _ _ _ _ _ _ _ RX RY _ ?_ ?_ ?_ ?_).mono ?_
  · exact S49.ints
  · exact R49.ints
  · exact S55.ints
  · exact S56.ints
  rintro e V59 ⟨rfl, hb⟩
  clear B49_0 B49_1 B49_2 B49_3 B53_0 B53_1 B53_2 B53_3
  have hz60 := hb.size
  have B61 := B51.below hb
  have B62 := B52.below hb
  have B63 := B53.below hb
  have B64 := B54.below hb
  have B65 := B49.below hb
  have S66 := S55.belowS hb
  have S67 := S56.belowS hb
  have S68 := S57.belowS hb
  have S69 := S58.belowS hb
  have S70 := S49.belowS hb
  have S71 := R49.belowS hb
  have hB : Below w.heap.size w V59 := hB.trans (hb.mono hB.size)
  clear B51 B52 B53 B54 B49 S55 S56 S57 S58 S49 R49 hb
  have B64_0 := B64.2.1 0 _ rfl
  have B64_1 := B64.2.1 1 _ rfl
  have B64_2 := B64.2.1 2 _ rfl
  have B64_3 := B64.2.1 3 _ rfl
  go_wp2_with fail
  refine (heldRatio_any _ _ _ _ _ _ _ _ RX.length RY.length 1 _ ?_ ?_ (by omega) (by omega)).mono ?_
  · exact S68.ints
  · exact S69.ints
  rintro e V72 ⟨rfl, hb⟩
  clear B64_0 B64_1 B64_2 B64_3
  have hz73 := hb.size
  have B74 := B61.below hb
  have B75 := B62.below hb
  have B76 := B63.below hb
  have B77 := B64.below hb
  have B78 := B65.below hb
  have S79 := S66.belowS hb
  have S80 := S67.belowS hb
  have S81 := S68.belowS hb
  have S82 := S69.belowS hb
  have S83 := S70.belowS hb
  have S84 := S71.belowS hb
  have hB : Below w.heap.size w V72 := hB.trans (hb.mono hB.size)
  clear B61 B62 B63 B64 B65 S66 S67 S68 S69 S70 S71 hb
  go_wp2_with fail
  go_ret
  exact gives rfl hB

end Go.Proofs.Ytopdeoicglkbkaa
