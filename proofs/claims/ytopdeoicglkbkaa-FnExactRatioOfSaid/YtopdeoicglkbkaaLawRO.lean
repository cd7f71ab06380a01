import Derived.Test.YtopdeoicglkbkaaRat2
import Derived.Test.YtopdeoicglkbkaaFracB
set_option linter.unusedSimpArgs false
set_option linter.unusedVariables false
namespace Go.Proofs.Ytopdeoicglkbkaa
open Go.RowKit

theorem roX_len (n d : Int) : (roX n d).length ≤ 1000 := by
  unfold roX
  split
  · rename_i g
    obtain ⟨r1, r2, r3, r4⟩ := isF_rng g
    have := dg_len n.natAbs (by omega); omega
  · simp
theorem roY_len (n d : Int) : (roY n d).length ≤ 1000 := by
  unfold roY
  split
  · rename_i g
    obtain ⟨r1, r2, r3, r4⟩ := isF_rng g
    have := dg_len d.natAbs (by omega); omega
  · simp
set_option maxRecDepth 100000 in
set_option maxHeartbeats 4000000 in
theorem walk_FnExactRatioOf (a b : Int) (w : World) (_w_a : (Lit.int .i64 a).wf = true) (_w_b : (Lit.int .i64 b).wf = true) : Calls Try.prog 3 #[.agg #[.int .i64 a, .int .i64 b]] w (Gives (.bool true) w) := by
  have HS := Lib.hid (fun  W => sRatioOf_any a b W)
  have HI := Lib.hid (fun  W => RatioOf_any a b W)
  have hL1 := roX_len a b
  have hL2 := roY_len a b
  generalize isF a b = ok at *
  generalize roN a b = rn at *
  generalize roX a b = RX at *
  generalize roD a b = rm at *
  generalize roY a b = RY at *
  go_enter Try.func3, Try.ntmps3
  go_upto_region 1 with fail
  refine name_world (fun V0 hV0 => ?_)
  have B1 : Box V0 (w.heap.size) [.int .i64 a, .int .i64 b] := by subst hV0; exact box_two (by first | (simp; done) | (simp; omega)) (by simp [go_sem]) (by simp [go_sem]) (fun o => by simp [go_sem])
  have hB : Below w.heap.size w V0 := by subst hV0; exact (by repeat' (first | (with_reducible exact Below.refl _ _) | (with_reducible assumption) | (with_reducible refine Below.alloc ?_ ?_ _) | (with_reducible refine Below.setCell ?_ ?_ _) | (with_reducible refine Below.drew ?_) | (with_reducible refine below_drewN ?_ _) | (apply bthen2; (with_reducible assumption)) | go_size))
  have hV1 : V0.heap.size = w.heap.size + 1 := by subst hV0; simp
  clear hV0
  try go_upto_region 1 with fail
  go_cut [3, 4] (fun s3 s4 wx => ∃ (bx : Nat) (a : Option Addr) (l c : Nat) (b : Option Addr) (m d lo hi : Nat), s3 = .pointer (some ⟨bx, 0, none⟩) ∧ s4 = .bool ok ∧ Box wx bx [.bool rn, .slice a l c, .bool rm, .slice b m d] ∧ Seg wx lo hi (.slice a l c) RX ∧ Seg wx lo hi (.slice b m d) RY ∧ (∀ k, (Value.slice a l c).ownBlock = some k → (Value.slice b m d).ownBlock ≠ some k) ∧ V0.heap.size ≤ lo ∧ hi ≤ wx.heap.size ∧ V0.heap.size ≤ bx ∧ (bx < lo ∨ hi ≤ bx) ∧ Below V0.heap.size V0 wx)
  case first =>
    have B1_0 := B1.2.1 0 _ rfl
    have B1_1 := B1.2.1 1 _ rfl
    go_wp2_with (first | (go_at_call 14; refine (toFraction_any a b _).mono ?_; rintro e ua ⟨rfl, hba⟩; have hza := hba.size; (try simp only [World.size_alloc, World.size_setCell, World.size_drew, World.heap_drewN] at hza); try (have qB := Box.below (by first | exact box_made2 _ _ _ _ | exact box_made4 _ _ _ _ _ _ | (with_reducible assumption)) hba; (try simp only [World.size_drew, World.heap_drewN] at qB); have qB0 := qB.2.1 0 _ rfl; have qB1 := qB.2.1 1 _ rfl; (try have qB2 := qB.2.1 2 _ rfl); (try have qB3 := qB.2.1 3 _ rfl); have qBf := qB.2.2)) | (go_at_call 13; refine (HS.out  _ ).mono ?_; rintro e uz ⟨raz, rlz, rcz, rbz, rmz, rdz, rfl, Tz, hbz⟩; obtain ⟨loz, hiz, sgz, shz, hdz, hlz, hhz⟩ := Tz.segT hbz; (try simp only [World.size_alloc, World.size_setCell, World.size_drew, World.heap_drewN] at hlz); have hzz := hbz.size; (try simp only [World.size_alloc, World.size_setCell, World.size_drew, World.heap_drewN] at hzz); try (have qB := Box.below (by first | exact box_made2 _ _ _ _ | exact box_made4 _ _ _ _ _ _ | (with_reducible assumption)) hbz; (try simp only [World.size_drew, World.heap_drewN] at qB); have qB0 := qB.2.1 0 _ rfl; have qB1 := qB.2.1 1 _ rfl; (try have qB2 := qB.2.1 2 _ rfl); (try have qB3 := qB.2.1 3 _ rfl); have qBf := qB.2.2)))
    all_goals (go_wp2_with fail; go_meet; exact ⟨_, raz, rlz, rcz, rbz, rmz, rdz, loz, hiz, rfl, rfl, (by first | (with_reducible exact box_made4 _ _ _ _ _ _) | (exact Box.set (Box.set (Box.set (Box.set (vs := [_, _, _, _]) (by first | assumption | exact box_made4 _ _ _ _ _ _) 0 (by simp) _) 1 (by simp) _) 2 (by simp) _) 3 (by simp) _)), (by (repeat' (first | (with_reducible assumption) | (with_reducible refine Seg.set ?_ ?_ _) | (with_reducible refine Seg.alloc ?_ _) | (with_reducible refine Seg.drew ?_))); all_goals (first | omega | (simp; done) | (simp; omega))), (by (repeat' (first | (with_reducible assumption) | (with_reducible refine Seg.set ?_ ?_ _) | (with_reducible refine Seg.alloc ?_ _) | (with_reducible refine Seg.drew ?_))); all_goals (first | omega | (simp; done) | (simp; omega))), hdz, (by first | omega | (simp; done) | (simp; omega)), (by first | omega | (simp; done) | (simp; omega)), (by first | omega | (simp; done) | (simp; omega)), (by first | omega | (simp; done) | (simp; omega)), (by repeat' (first | (with_reducible exact Below.refl _ _) | (with_reducible assumption) | (with_reducible refine Below.alloc ?_ ?_ _) | (with_reducible refine Below.setCell ?_ ?_ _) | (with_reducible refine Below.drew ?_) | (with_reducible refine below_drewN ?_ _) | (apply bthen2; (with_reducible assumption)) | go_size))⟩)
  case rest =>
  obtain ⟨bx3, a3_, l3_, c3_, b3_, m3_, d3_, lo3, hi3, rfl, rfl, B3, S3, R3, D3, o3a, o3b, o3c, o3d, hb⟩ := hcut
  obtain ⟨V2, hV⟩ : ∃ x, x = wc := ⟨_, rfl⟩
  subst hV
  have hu3 := B3.1
  have hz4 := hb.size
  have B5 := B1.below hb
  have hB : Below w.heap.size w V2 := hB.trans (hb.mono hB.size)
  clear B1 hb
  try go_upto_region 2 with fail
  go_cut [5, 6] (fun s5 s6 wx => ∃ (bx : Nat) (a : Option Addr) (l c : Nat) (b : Option Addr) (m d lo hi : Nat), s5 = .pointer (some ⟨bx, 0, none⟩) ∧ s6 = .bool ok ∧ Box wx bx [.bool rn, .slice a l c, .bool rm, .slice b m d] ∧ Seg wx lo hi (.slice a l c) RX ∧ Seg wx lo hi (.slice b m d) RY ∧ (∀ k, (Value.slice a l c).ownBlock = some k → (Value.slice b m d).ownBlock ≠ some k) ∧ V2.heap.size ≤ lo ∧ hi ≤ wx.heap.size ∧ V2.heap.size ≤ bx ∧ (bx < lo ∨ hi ≤ bx) ∧ Below V2.heap.size V2 wx)
  case first =>
    have B5_0 := B5.2.1 0 _ rfl
    have B5_1 := B5.2.1 1 _ rfl
    go_wp2_with (first | (go_at_call 14; refine (toFraction_any a b _).mono ?_; rintro e ua ⟨rfl, hba⟩; have hza := hba.size; (try simp only [World.size_alloc, World.size_setCell, World.size_drew, World.heap_drewN] at hza); try (have qB := Box.below (by first | exact box_made2 _ _ _ _ | exact box_made4 _ _ _ _ _ _ | (with_reducible assumption)) hba; (try simp only [World.size_drew, World.heap_drewN] at qB); have qB0 := qB.2.1 0 _ rfl; have qB1 := qB.2.1 1 _ rfl; (try have qB2 := qB.2.1 2 _ rfl); (try have qB3 := qB.2.1 3 _ rfl); have qBf := qB.2.2)) | (go_at_call 15; refine (HI.out  _ ).mono ?_; rintro e uz ⟨raz, rlz, rcz, rbz, rmz, rdz, rfl, Tz, hbz⟩; obtain ⟨loz, hiz, sgz, shz, hdz, hlz, hhz⟩ := Tz.segT hbz; (try simp only [World.size_alloc, World.size_setCell, World.size_drew, World.heap_drewN] at hlz); have hzz := hbz.size; (try simp only [World.size_alloc, World.size_setCell, World.size_drew, World.heap_drewN] at hzz); try (have qB := Box.below (by first | exact box_made2 _ _ _ _ | exact box_made4 _ _ _ _ _ _ | (with_reducible assumption)) hbz; (try simp only [World.size_drew, World.heap_drewN] at qB); have qB0 := qB.2.1 0 _ rfl; have qB1 := qB.2.1 1 _ rfl; (try have qB2 := qB.2.1 2 _ rfl); (try have qB3 := qB.2.1 3 _ rfl); have qBf := qB.2.2)))
    all_goals (go_wp2_with fail; go_meet; exact ⟨_, raz, rlz, rcz, rbz, rmz, rdz, loz, hiz, rfl, rfl, (by first | (with_reducible exact box_made4 _ _ _ _ _ _) | (exact Box.set (Box.set (Box.set (Box.set (vs := [_, _, _, _]) (by first | assumption | exact box_made4 _ _ _ _ _ _) 0 (by simp) _) 1 (by simp) _) 2 (by simp) _) 3 (by simp) _)), (by (repeat' (first | (with_reducible assumption) | (with_reducible refine Seg.set ?_ ?_ _) | (with_reducible refine Seg.alloc ?_ _) | (with_reducible refine Seg.drew ?_))); all_goals (first | omega | (simp; done) | (simp; omega))), (by (repeat' (first | (with_reducible assumption) | (with_reducible refine Seg.set ?_ ?_ _) | (with_reducible refine Seg.alloc ?_ _) | (with_reducible refine Seg.drew ?_))); all_goals (first | omega | (simp; done) | (simp; omega))), hdz, (by first | omega | (simp; done) | (simp; omega)), (by first | omega | (simp; done) | (simp; omega)), (by first | omega | (simp; done) | (simp; omega)), (by first | omega | (simp; done) | (simp; omega)), (by repeat' (first | (with_reducible exact Below.refl _ _) | (with_reducible assumption) | (with_reducible refine Below.alloc ?_ ?_ _) | (with_reducible refine Below.setCell ?_ ?_ _) | (with_reducible refine Below.drew ?_) | (with_reducible refine below_drewN ?_ _) | (apply bthen2; (with_reducible assumption)) | go_size))⟩)
  case rest =>
  obtain ⟨bx7, a7_, l7_, c7_, b7_, m7_, d7_, lo7, hi7, rfl, rfl, B7, S7, R7, D7, o7a, o7b, o7c, o7d, hb⟩ := hcut
  obtain ⟨V6, hV⟩ : ∃ x, x = wc := ⟨_, rfl⟩
  subst hV
  have hu7 := B7.1
  have hz8 := hb.size
  have B9 := B5.below hb
  have B10 := B3.below hb
  have S11 := S3.belowS hb
  have S12 := R3.belowS hb
  have hB : Below w.heap.size w V6 := hB.trans (hb.mono hB.size)
  clear B5 B3 S3 R3 hb
  have B7_0 := B7.2.1 0 _ rfl
  have B7_1 := B7.2.1 1 _ rfl
  have B7_2 := B7.2.1 2 _ rfl
  have B7_3 := B7.2.1 3 _ rfl
  have B10_0 := B10.2.1 0 _ rfl
  have B10_1 := B10.2.1 1 _ rfl
  have B10_2 := B10.2.1 2 _ rfl
  have B10_3 := B10.2.1 3 _ rfl
  go_wp2_with fail
  refine (eqRatio_same _ _ _ _ _ _ _ _ _ _ _ _ _ _ RX RY _ ?_ ?_ ?_ ?_).mono ?_
  · exact S7.ints
  · exact R7.ints
  · exact S11.ints
  · exact S12.ints
  rintro e V13 ⟨rfl, hb⟩
  clear B7_0 B7_1 B7_2 B7_3 B10_0 B10_1 B10_2 B10_3
  have hz14 := hb.size
  have B15 := B9.below hb
  have B16 := B10.below hb
  have B17 := B7.below hb
  have S18 := S11.belowS hb
  have S19 := S12.belowS hb
  have S20 := S7.belowS hb
  have S21 := R7.belowS hb
  have hB : Below w.heap.size w V13 := hB.trans (hb.mono hB.size)
  clear B9 B10 B7 S11 S12 S7 R7 hb
  have B17_0 := B17.2.1 0 _ rfl
  have B17_1 := B17.2.1 1 _ rfl
  have B17_2 := B17.2.1 2 _ rfl
  have B17_3 := B17.2.1 3 _ rfl
  go_wp2_with fail
  refine (markRatio_T _ _ _ _ _ _ _ _ _ _ _ _ (1) _ S20 S21 D7 (by omega) (by omega)).mono ?_
  rintro e V22 ⟨rfl, S23, S24, hc⟩
  clear B17_0 B17_1 B17_2 B17_3
  have hz25 := hc.size
  have q0 := B15.1
  have B26 := B15.chg hc (by intro e; rcases e with e | e <;> first | (have q1 := S20.rng e; omega) | (have q1 := S21.rng e; omega))
  clear q0
  have q0 := B16.1
  have B27 := B16.chg hc (by intro e; rcases e with e | e <;> first | (have q1 := S20.rng e; omega) | (have q1 := S21.rng e; omega))
  clear q0
  have q0 := B17.1
  have B28 := B17.chg hc (by intro e; rcases e with e | e <;> first | (have q1 := S20.rng e; omega) | (have q1 := S21.rng e; omega))
  clear q0
  have S29 := S18.chgS hc (by intro k hk e; rcases e with e | e <;> first | (have q1 := S20.rng e; have q2 := S18.rng hk; omega) | (have q1 := S21.rng e; have q2 := S18.rng hk; omega))
  have S30 := S19.chgS hc (by intro k hk e; rcases e with e | e <;> first | (have q1 := S20.rng e; have q2 := S19.rng hk; omega) | (have q1 := S21.rng e; have q2 := S19.rng hk; omega))
  have hB : Below w.heap.size w V22 := hB.trans (hc.below (by intro k e; rcases e with e | e <;> first | (have q1 := S20.rng e; omega) | (have q1 := S21.rng e; omega)) hB.size)
  clear B15 B16 B17 S18 S19 S20 S21 hc
  have B28_0 := B28.2.1 0 _ rfl
  have B28_1 := B28.2.1 1 _ rfl
  have B28_2 := B28.2.1 2 _ rfl
  have B28_3 := B28.2.1 3 _ rfl
  go_wp2_with fail
  refine (heldRatio_any _ _ _ _ _ _ _ _ RX.length RY.length 1 _ ?_ ?_ (by omega) (by omega)).mono ?_
  · exact S23.ints
  · exact S24.ints
  rintro e V33 ⟨rfl, hb⟩
  clear B28_0 B28_1 B28_2 B28_3
  have hz34 := hb.size
  have B35 := B26.below hb
  have B36 := B27.below hb
  have B37 := B28.below hb
  have S38 := S29.belowS hb
  have S39 := S30.belowS hb
  have S40 := S23.belowS hb
  have S41 := S24.belowS hb
  have hB : Below w.heap.size w V33 := hB.trans (hb.mono hB.size)
  clear B26 B27 B28 S29 S30 S23 S24 hb
  try go_upto_region 13 with fail
  go_cut [9, 10] (fun s9 s10 wx => ∃ (bx : Nat) (a : Option Addr) (l c : Nat) (b : Option Addr) (m d lo hi : Nat), s9 = .pointer (some ⟨bx, 0, none⟩) ∧ s10 = .bool ok ∧ Box wx bx [.bool rn, .slice a l c, .bool rm, .slice b m d] ∧ Seg wx lo hi (.slice a l c) RX ∧ Seg wx lo hi (.slice b m d) RY ∧ (∀ k, (Value.slice a l c).ownBlock = some k → (Value.slice b m d).ownBlock ≠ some k) ∧ V33.heap.size ≤ lo ∧ hi ≤ wx.heap.size ∧ V33.heap.size ≤ bx ∧ (bx < lo ∨ hi ≤ bx) ∧ Below V33.heap.size V33 wx)
  case first =>
    have B35_0 := B35.2.1 0 _ rfl
    have B35_1 := B35.2.1 1 _ rfl
    go_wp2_with (first | (go_at_call 14; refine (toFraction_any a b _).mono ?_; rintro e ua ⟨rfl, hba⟩; have hza := hba.size; (try simp only [World.size_alloc, World.size_setCell, World.size_drew, World.heap_drewN] at hza); try (have qB := Box.below (by first | exact box_made2 _ _ _ _ | exact box_made4 _ _ _ _ _ _ | (with_reducible assumption)) hba; (try simp only [World.size_drew, World.heap_drewN] at qB); have qB0 := qB.2.1 0 _ rfl; have qB1 := qB.2.1 1 _ rfl; (try have qB2 := qB.2.1 2 _ rfl); (try have qB3 := qB.2.1 3 _ rfl); have qBf := qB.2.2)) | (go_at_call 15; refine (HI.out  _ ).mono ?_; rintro e uz ⟨raz, rlz, rcz, rbz, rmz, rdz, rfl, Tz, hbz⟩; obtain ⟨loz, hiz, sgz, shz, hdz, hlz, hhz⟩ := Tz.segT hbz; (try simp only [World.size_alloc, World.size_setCell, World.size_drew, World.heap_drewN] at hlz); have hzz := hbz.size; (try simp only [World.size_alloc, World.size_setCell, World.size_drew, World.heap_drewN] at hzz); try (have qB := Box.below (by first | exact box_made2 _ _ _ _ | exact box_made4 _ _ _ _ _ _ | (with_reducible assumption)) hbz; (try simp only [World.size_drew, World.heap_drewN] at qB); have qB0 := qB.2.1 0 _ rfl; have qB1 := qB.2.1 1 _ rfl; (try have qB2 := qB.2.1 2 _ rfl); (try have qB3 := qB.2.1 3 _ rfl); have qBf := qB.2.2)))
    all_goals (go_wp2_with fail; go_meet; exact ⟨_, raz, rlz, rcz, rbz, rmz, rdz, loz, hiz, rfl, rfl, (by first | (with_reducible exact box_made4 _ _ _ _ _ _) | (exact Box.set (Box.set (Box.set (Box.set (vs := [_, _, _, _]) (by first | assumption | exact box_made4 _ _ _ _ _ _) 0 (by simp) _) 1 (by simp) _) 2 (by simp) _) 3 (by simp) _)), (by (repeat' (first | (with_reducible assumption) | (with_reducible refine Seg.set ?_ ?_ _) | (with_reducible refine Seg.alloc ?_ _) | (with_reducible refine Seg.drew ?_))); all_goals (first | omega | (simp; done) | (simp; omega))), (by (repeat' (first | (with_reducible assumption) | (with_reducible refine Seg.set ?_ ?_ _) | (with_reducible refine Seg.alloc ?_ _) | (with_reducible refine Seg.drew ?_))); all_goals (first | omega | (simp; done) | (simp; omega))), hdz, (by first | omega | (simp; done) | (simp; omega)), (by first | omega | (simp; done) | (simp; omega)), (by first | omega | (simp; done) | (simp; omega)), (by first | omega | (simp; done) | (simp; omega)), (by repeat' (first | (with_reducible exact Below.refl _ _) | (with_reducible assumption) | (with_reducible refine Below.alloc ?_ ?_ _) | (with_reducible refine Below.setCell ?_ ?_ _) | (with_reducible refine Below.drew ?_) | (with_reducible refine below_drewN ?_ _) | (apply bthen2; (with_reducible assumption)) | go_size))⟩)
  case rest =>
  obtain ⟨bx43, a43_, l43_, c43_, b43_, m43_, d43_, lo43, hi43, rfl, rfl, B43, S43, R43, D43, o43a, o43b, o43c, o43d, hb⟩ := hcut
  obtain ⟨V42, hV⟩ : ∃ x, x = wc := ⟨_, rfl⟩
  subst hV
  have hu43 := B43.1
  have hz44 := hb.size
  have B45 := B35.below hb
  have B46 := B36.below hb
  have B47 := B37.below hb
  have S48 := S38.belowS hb
  have S49 := S39.belowS hb
  have S50 := S40.belowS hb
  have S51 := S41.belowS hb
  have hB : Below w.heap.size w V42 := hB.trans (hb.mono hB.size)
  clear B35 B36 B37 S38 S39 S40 S41 hb
  have B43_0 := B43.2.1 0 _ rfl
  have B43_1 := B43.2.1 1 _ rfl
  have B43_2 := B43.2.1 2 _ rfl
  have B43_3 := B43.2.1 3 _ rfl
  have B46_0 := B46.2.1 0 _ rfl
  have B46_1 := B46.2.1 1 _ rfl
  have B46_2 := B46.2.1 2 _ rfl
  have B46_3 := B46.2.1 3 _ rfl
  go_wp2_with fail
  refine (eqRatio_same _ _ _ _ _ _ _ _ _ _ _ _ _ _ RX RY _ ?_ ?_ ?_ ?_).mono ?_
  · exact S43.ints
  · exact R43.ints
  · exact S48.ints
  · exact S49.ints
  rintro e V52 ⟨rfl, hb⟩
  clear B43_0 B43_1 B43_2 B43_3 B46_0 B46_1 B46_2 B46_3
  have hz53 := hb.size
  have B54 := B45.below hb
  have B55 := B46.below hb
  have B56 := B47.below hb
  have B57 := B43.below hb
  have S58 := S48.belowS hb
  have S59 := S49.belowS hb
  have S60 := S50.belowS hb
  have S61 := S51.belowS hb
  have S62 := S43.belowS hb
  have S63 := R43.belowS hb
  have hB : Below w.heap.size w V52 := hB.trans (hb.mono hB.size)
  clear B45 B46 B47 B43 S48 S49 S50 S51 S43 R43 hb
  have B56_0 := B56.2.1 0 _ rfl
  have B56_1 := B56.2.1 1 _ rfl
  have B56_2 := B56.2.1 2 _ rfl
  have B56_3 := B56.2.1 3 _ rfl
  go_wp2_with fail
  refine (heldRatio_any _ _ _ _ _ _ _ _ RX.length RY.length 1 _ ?_ ?_ (by omega) (by omega)).mono ?_
  · exact S60.ints
  · exact S61.ints
  rintro e V64 ⟨rfl, hb⟩
  clear B56_0 B56_1 B56_2 B56_3
  have hz65 := hb.size
  have B66 := B54.below hb
  have B67 := B55.below hb
  have B68 := B56.below hb
  have B69 := B57.below hb
  have S70 := S58.belowS hb
  have S71 := S59.belowS hb
  have S72 := S60.belowS hb
  have S73 := S61.belowS hb
  have S74 := S62.belowS hb
  have S75 := S63.belowS hb
  have hB : Below w.heap.size w V64 := hB.trans (hb.mono hB.size)
  clear B54 B55 B56 B57 S58 S59 S60 S61 S62 S63 hb
  go_wp2_with fail
  go_ret
  exact gives rfl hB

end Go.Proofs.Ytopdeoicglkbkaa
