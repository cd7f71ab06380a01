import Derived.Test.YtopdeoicglkbkaaDoorTxt4
import Derived.Test.YtopdeoicglkbkaaDoorBox
set_option linter.unusedSimpArgs false
set_option linter.unusedVariables false
namespace Go.Proofs.YtopdeoicglkbkaaDoor
open Go.RowKit

set_option maxRecDepth 100000 in
set_option maxHeartbeats 4000000 in
theorem walk_FnExactRatioText (n0 : Bool) (a0 : Option Addr) (l0 c0 : Nat) (x0 : List Int) (m0 : Bool) (b0 : Option Addr) (p0 q0 : Nat) (y0 : List Int) (w : World) (htab : ∀ W, Below w.heap.size w W → Lib.TabIs Tryd.prog W "internal/strconv.uint64pow10" .u64 Lib.pow10Tab) (hx0 : Ints w (.slice a0 l0 c0) x0) (hy0 : Ints w (.slice b0 p0 q0) y0) : Calls Tryd.prog 4 #[.agg #[.bool n0, .slice a0 l0 c0, .bool m0, .slice b0 p0 q0]] w (Gives (.bool true) w) := by
  obtain ⟨L0, hL0⟩ : ∃ L, szR x0 y0 1048576 = L := ⟨_, rfl⟩
  have HZ0 := Lib.hid (fun W h h2 => szRatio_any n0 m0 a0 b0 l0 c0 p0 q0 x0 y0 1048576 (by decide) (by decide) W h h2)
  rw [hL0] at HZ0
  by_cases g0 : L0 < 0
  · clear hL0
    go_enter Tryd.func4, Tryd.ntmps4
    go_upto_region 2 with fail
    refine name_world (fun V0 hV0 => ?_)
    have B1 : Box V0 (w.heap.size) [.bool n0, .slice a0 l0 c0, .bool m0, .slice b0 p0 q0] := by subst hV0; exact box_four (by first | (simp; done) | (simp; omega)) (by simp [go_sem]) (by simp [go_sem]) (by simp [go_sem]) (by simp [go_sem]) (fun o => by simp [go_sem])
    have hB : Below w.heap.size w V0 := by subst hV0; exact (by repeat' (first | (with_reducible exact Below.refl _ _) | (with_reducible assumption) | (with_reducible refine Below.alloc ?_ ?_ _) | (with_reducible refine Below.setCell ?_ ?_ _) | (with_reducible refine Below.drew ?_) | (with_reducible refine below_drewN ?_ _) | (apply bthen2; (with_reducible assumption)) | go_size))
    have hV1 : V0.heap.size ≤ w.heap.size + 1 ∧ w.heap.size + 1 ≤ V0.heap.size := by subst hV0; simp
    clear hV0
    have B1_0 := B1.2.1 0 _ rfl
    have B1_1 := B1.2.1 1 _ rfl
    have B1_2 := B1.2.1 2 _ rfl
    have B1_3 := B1.2.1 3 _ rfl
    go_wp2_with fail
    refine (HZ0.out _ ?_ ?_).mono ?_
    · exact Ints.below hx0 hB
    · exact Ints.below hy0 hB
    rintro e V2 ⟨rfl, hb⟩
    clear B1_0 B1_1 B1_2 B1_3
    have hz3 := hb.size
    have B4 := B1.below hb
    have hB : Below w.heap.size w V2 := hB.trans (hb.mono hB.size)
    clear B1 hb
    go_wp2
    go_ret
    exact gives rfl hB
  have hq0 := szR_ok (xs := x0) (ys := y0) (left := 1048576) (by decide) (by decide) (by rw [hL0]; exact g0)
  rw [hL0] at hq0
  have HT0 := Lib.hid (fun W h h2 => toRatio_two n0 m0 a0 b0 l0 c0 p0 q0 x0 y0 W h h2 hq0.2.1 hq0.2.2)
  have HS := Lib.hid (fun p0 q0 r0 p1 q1 r1 W h0 h1 => sRatioText_any n0 m0 p0 p1 q0 q1 r0 r1 x0 y0 W h0 h1)
  have HI := Lib.hid (fun p0 q0 r0 p1 q1 r1 W (hW : Below w.heap.size w W) h0 h1 => RatioText_any n0 m0 p0 p1 q0 q1 r0 r1 x0 y0 W h0 h1 (fun W2 h2 => htab W2 (hW.trans (h2.mono hW.size))))
  obtain ⟨RT, ok, hR⟩ : ∃ RT ok, rtV n0 x0 m0 y0 = (RT, ok) := ⟨_, _, rfl⟩
  rw [hR] at HS HI
  dsimp only at HS HI
  clear hR
  obtain ⟨hn0, hm0⟩ := hq0.2
  clear hL0 hq0
  go_enter Tryd.func4, Tryd.ntmps4
  go_upto_region 2 with fail
  refine name_world (fun V0 hV0 => ?_)
  have B5 : Box V0 (w.heap.size) [.bool n0, .slice a0 l0 c0, .bool m0, .slice b0 p0 q0] := by subst hV0; exact box_four (by first | (simp; done) | (simp; omega)) (by simp [go_sem]) (by simp [go_sem]) (by simp [go_sem]) (by simp [go_sem]) (fun o => by simp [go_sem])
  have hB : Below w.heap.size w V0 := by subst hV0; exact (by repeat' (first | (with_reducible exact Below.refl _ _) | (with_reducible assumption) | (with_reducible refine Below.alloc ?_ ?_ _) | (with_reducible refine Below.setCell ?_ ?_ _) | (with_reducible refine Below.drew ?_) | (with_reducible refine below_drewN ?_ _) | (apply bthen2; (with_reducible assumption)) | go_size))
  have hV1 : V0.heap.size ≤ w.heap.size + 1 ∧ w.heap.size + 1 ≤ V0.heap.size := by subst hV0; simp
  clear hV0
  have B5_0 := B5.2.1 0 _ rfl
  have B5_1 := B5.2.1 1 _ rfl
  have B5_2 := B5.2.1 2 _ rfl
  have B5_3 := B5.2.1 3 _ rfl
  go_wp2_with fail
  refine (HZ0.out _ ?_ ?_).mono ?_
  · exact Ints.below hx0 hB
  · exact Ints.below hy0 hB
  rintro e V6 ⟨rfl, hb⟩
  clear B5_0 B5_1 B5_2 B5_3
  have hz7 := hb.size
  have B8 := B5.below hb
  have hB : Below w.heap.size w V6 := hB.trans (hb.mono hB.size)
  clear B5 hb
  try go_upto_region 5 with fail
  go_cut [4, 5] (fun s4 s5 wx => s4 = .string ⟨RT.toArray⟩ ∧ s5 = .bool ok ∧ Below V6.heap.size V6 wx)
  case first =>
    have B8_0 := B8.2.1 0 _ rfl
    have B8_1 := B8.2.1 1 _ rfl
    have B8_2 := B8.2.1 2 _ rfl
    have B8_3 := B8.2.1 3 _ rfl
    go_wp2_with (first | (go_at_call 12; refine (HT0.out _ ?_ ?_).mono ?_; (focus (first | (refine Ints.below hx0 ?_; (repeat' (first | (with_reducible exact Below.refl _ _) | (with_reducible assumption) | (with_reducible refine Below.alloc ?_ ?_ _) | (with_reducible refine Below.setCell ?_ ?_ _) | (with_reducible refine Below.drew ?_) | (with_reducible refine below_drewN ?_ _) | (apply bthen2; (with_reducible assumption)) | go_size)); done) | (refine Ints.below hy0 ?_; (repeat' (first | (with_reducible exact Below.refl _ _) | (with_reducible assumption) | (with_reducible refine Below.alloc ?_ ?_ _) | (with_reducible refine Below.setCell ?_ ?_ _) | (with_reducible refine Below.drew ?_) | (with_reducible refine below_drewN ?_ _) | (apply bthen2; (with_reducible assumption)) | go_size)); done))); (focus (first | (refine Ints.below hx0 ?_; (repeat' (first | (with_reducible exact Below.refl _ _) | (with_reducible assumption) | (with_reducible refine Below.alloc ?_ ?_ _) | (with_reducible refine Below.setCell ?_ ?_ _) | (with_reducible refine Below.drew ?_) | (with_reducible refine below_drewN ?_ _) | (apply bthen2; (with_reducible assumption)) | go_size)); done) | (refine Ints.below hy0 ?_; (repeat' (first | (with_reducible exact Below.refl _ _) | (with_reducible assumption) | (with_reducible refine Below.alloc ?_ ?_ _) | (with_reducible refine Below.setCell ?_ ?_ _) | (with_reducible refine Below.drew ?_) | (with_reducible refine below_drewN ?_ _) | (apply bthen2; (with_reducible assumption)) | go_size)); done))); rintro e ua ⟨taa, tla, tca, tba, tma, tda, rfl, Ta, hba⟩; obtain ⟨ia, ja⟩ := Ta.ints; obtain ⟨loa, hia, sga, sha, hda, hla, hha⟩ := Ta.segT hba; (try simp only [World.size_alloc, World.size_setCell, World.size_drew, World.heap_drewN] at hla); have hza := hba.size; (try simp only [World.size_alloc, World.size_setCell, World.size_drew, World.heap_drewN] at hza); try (have qB := Box.below (by first | exact box_made2 _ _ _ _ | exact box_made4 _ _ _ _ _ _ | (with_reducible assumption)) hba; (try simp only [World.size_drew, World.heap_drewN] at qB); have qB0 := qB.2.1 0 _ rfl; have qB1 := qB.2.1 1 _ rfl; (try have qB2 := qB.2.1 2 _ rfl); (try have qB3 := qB.2.1 3 _ rfl); have qBf := qB.2.2)) | (go_at_call 11; refine (HS.out _ _ _ _ _ _  _ ?_ ?_ ).mono ?_; (focus (first | (refine Ints.below ia ?_; (repeat' (first | (with_reducible exact Below.refl _ _) | (with_reducible assumption) | (with_reducible refine Below.alloc ?_ ?_ _) | (with_reducible refine Below.setCell ?_ ?_ _) | (with_reducible refine Below.drew ?_) | (with_reducible refine below_drewN ?_ _) | (apply bthen2; (with_reducible assumption)) | go_size)); done))); (focus (first | (refine Ints.below ja ?_; (repeat' (first | (with_reducible exact Below.refl _ _) | (with_reducible assumption) | (with_reducible refine Below.alloc ?_ ?_ _) | (with_reducible refine Below.setCell ?_ ?_ _) | (with_reducible refine Below.drew ?_) | (with_reducible refine below_drewN ?_ _) | (apply bthen2; (with_reducible assumption)) | go_size)); done))); rintro e uz ⟨rfl, hbz⟩; have hzz := hbz.size; (try simp only [World.size_alloc, World.size_setCell, World.size_drew, World.heap_drewN] at hzz)))
    all_goals (go_wp2_with fail; go_meet; exact ⟨rfl, rfl, (by repeat' (first | (with_reducible exact Below.refl _ _) | (with_reducible assumption) | (with_reducible refine Below.alloc ?_ ?_ _) | (with_reducible refine Below.setCell ?_ ?_ _) | (with_reducible refine Below.drew ?_) | (with_reducible refine below_drewN ?_ _) | (apply bthen2; (with_reducible assumption)) | go_size))⟩)
  case rest =>
  obtain ⟨rfl, rfl, hb⟩ := hcut
  obtain ⟨V9, hV⟩ : ∃ x, x = wc := ⟨_, rfl⟩
  subst hV
  have hz11 := hb.size
  have B12 := B8.below hb
  have hB : Below w.heap.size w V9 := hB.trans (hb.mono hB.size)
  clear B8 hb
  try go_upto_region 6 with fail
  go_cut [6] (fun s6 wx => ∃ (bx : Nat) (a : Option Addr) (l c : Nat) (b : Option Addr) (m d lo hi : Nat), s6 = .pointer (some ⟨bx, 0, none⟩) ∧ Box wx bx [.bool n0, .slice a l c, .bool m0, .slice b m d] ∧ Seg wx lo hi (.slice a l c) x0 ∧ Seg wx lo hi (.slice b m d) y0 ∧ (∀ k, (Value.slice a l c).ownBlock = some k → (Value.slice b m d).ownBlock ≠ some k) ∧ V9.heap.size ≤ lo ∧ hi ≤ wx.heap.size ∧ V9.heap.size ≤ bx ∧ (bx < lo ∨ hi ≤ bx) ∧ Below V9.heap.size V9 wx)
  case first =>
    have B12_0 := B12.2.1 0 _ rfl
    have B12_1 := B12.2.1 1 _ rfl
    have B12_2 := B12.2.1 2 _ rfl
    have B12_3 := B12.2.1 3 _ rfl
    go_wp2_with (first | (go_at_call 12; refine (HT0.out _ ?_ ?_).mono ?_; (focus (first | (refine Ints.below hx0 ?_; (repeat' (first | (with_reducible exact Below.refl _ _) | (with_reducible assumption) | (with_reducible refine Below.alloc ?_ ?_ _) | (with_reducible refine Below.setCell ?_ ?_ _) | (with_reducible refine Below.drew ?_) | (with_reducible refine below_drewN ?_ _) | (apply bthen2; (with_reducible assumption)) | go_size)); done) | (refine Ints.below hy0 ?_; (repeat' (first | (with_reducible exact Below.refl _ _) | (with_reducible assumption) | (with_reducible refine Below.alloc ?_ ?_ _) | (with_reducible refine Below.setCell ?_ ?_ _) | (with_reducible refine Below.drew ?_) | (with_reducible refine below_drewN ?_ _) | (apply bthen2; (with_reducible assumption)) | go_size)); done))); (focus (first | (refine Ints.below hx0 ?_; (repeat' (first | (with_reducible exact Below.refl _ _) | (with_reducible assumption) | (with_reducible refine Below.alloc ?_ ?_ _) | (with_reducible refine Below.setCell ?_ ?_ _) | (with_reducible refine Below.drew ?_) | (with_reducible refine below_drewN ?_ _) | (apply bthen2; (with_reducible assumption)) | go_size)); done) | (refine Ints.below hy0 ?_; (repeat' (first | (with_reducible exact Below.refl _ _) | (with_reducible assumption) | (with_reducible refine Below.alloc ?_ ?_ _) | (with_reducible refine Below.setCell ?_ ?_ _) | (with_reducible refine Below.drew ?_) | (with_reducible refine below_drewN ?_ _) | (apply bthen2; (with_reducible assumption)) | go_size)); done))); rintro e uz ⟨taz, tlz, tcz, tbz, tmz, tdz, rfl, Tz, hbz⟩; obtain ⟨iz, jz⟩ := Tz.ints; obtain ⟨loz, hiz, sgz, shz, hdz, hlz, hhz⟩ := Tz.segT hbz; (try simp only [World.size_alloc, World.size_setCell, World.size_drew, World.heap_drewN] at hlz); have hzz := hbz.size; (try simp only [World.size_alloc, World.size_setCell, World.size_drew, World.heap_drewN] at hzz); try (have qB := Box.below (by first | exact box_made2 _ _ _ _ | exact box_made4 _ _ _ _ _ _ | (with_reducible assumption)) hbz; (try simp only [World.size_drew, World.heap_drewN] at qB); have qB0 := qB.2.1 0 _ rfl; have qB1 := qB.2.1 1 _ rfl; (try have qB2 := qB.2.1 2 _ rfl); (try have qB3 := qB.2.1 3 _ rfl); have qBf := qB.2.2); try (have qB := Box.below (by first | exact box_made2 _ _ _ _ | exact box_made4 _ _ _ _ _ _ | (with_reducible assumption)) hbz; (try simp only [World.size_drew, World.heap_drewN] at qB); have qB0 := qB.2.1 0 _ rfl; have qB1 := qB.2.1 1 _ rfl; (try have qB2 := qB.2.1 2 _ rfl); (try have qB3 := qB.2.1 3 _ rfl); have qBf := qB.2.2)))
    all_goals (go_wp2_with fail; go_meet; exact ⟨_, taz, tlz, tcz, tbz, tmz, tdz, loz, hiz, rfl, (by first | (with_reducible exact box_made4 _ _ _ _ _ _) | (exact Box.set (Box.set (Box.set (Box.set (vs := [_, _, _, _]) (by first | assumption | exact box_made4 _ _ _ _ _ _) 0 (by simp) _) 1 (by simp) _) 2 (by simp) _) 3 (by simp) _)), (by (repeat' (first | (with_reducible assumption) | (with_reducible refine Seg.set ?_ ?_ _) | (with_reducible refine Seg.alloc ?_ _) | (with_reducible refine Seg.drew ?_))); all_goals (first | omega | (simp; done) | (simp; omega))), (by (repeat' (first | (with_reducible assumption) | (with_reducible refine Seg.set ?_ ?_ _) | (with_reducible refine Seg.alloc ?_ _) | (with_reducible refine Seg.drew ?_))); all_goals (first | omega | (simp; done) | (simp; omega))), hdz, (by first | omega | (simp; done) | (simp; omega)), (by first | omega | (simp; done) | (simp; omega)), (by first | omega | (simp; done) | (simp; omega)), (by first | omega | (simp; done) | (simp; omega)), (by repeat' (first | (with_reducible exact Below.refl _ _) | (with_reducible assumption) | (with_reducible refine Below.alloc ?_ ?_ _) | (with_reducible refine Below.setCell ?_ ?_ _) | (with_reducible refine Below.drew ?_) | (with_reducible refine below_drewN ?_ _) | (apply bthen2; (with_reducible assumption)) | go_size))⟩)
  case rest =>
  obtain ⟨bx14, a14_, l14_, c14_, b14_, m14_, d14_, lo14, hi14, rfl, B14, S14, R14, D14, o14a, o14b, o14c, o14d, hb⟩ := hcut
  obtain ⟨V13, hV⟩ : ∃ x, x = wc := ⟨_, rfl⟩
  subst hV
  have hu14 := B14.1
  have hz15 := hb.size
  have B16 := B12.below hb
  have hB : Below w.heap.size w V13 := hB.trans (hb.mono hB.size)
  clear B12 hb
  try go_upto_region 7 with fail
  go_cut [7, 8] (fun s7 s8 wx => s7 = .string ⟨RT.toArray⟩ ∧ s8 = .bool ok ∧ Below V13.heap.size V13 wx)
  case first =>
    have B14_0 := B14.2.1 0 _ rfl
    have B14_1 := B14.2.1 1 _ rfl
    have B14_2 := B14.2.1 2 _ rfl
    have B14_3 := B14.2.1 3 _ rfl
    go_wp2_with (first | (go_at_call 13; refine (HI.out _ _ _ _ _ _  _ ?_ ?_ ?_ ).mono ?_; (focus (repeat' (first | (with_reducible exact Below.refl _ _) | (with_reducible assumption) | (with_reducible refine Below.alloc ?_ ?_ _) | (with_reducible refine Below.setCell ?_ ?_ _) | (with_reducible refine Below.drew ?_) | (with_reducible refine below_drewN ?_ _) | (apply bthen2; (with_reducible assumption)) | go_size))); (focus (first | (refine Ints.below S14.ints ?_; (repeat' (first | (with_reducible exact Below.refl _ _) | (with_reducible assumption) | (with_reducible refine Below.alloc ?_ ?_ _) | (with_reducible refine Below.setCell ?_ ?_ _) | (with_reducible refine Below.drew ?_) | (with_reducible refine below_drewN ?_ _) | (apply bthen2; (with_reducible assumption)) | go_size)); done))); (focus (first | (refine Ints.below R14.ints ?_; (repeat' (first | (with_reducible exact Below.refl _ _) | (with_reducible assumption) | (with_reducible refine Below.alloc ?_ ?_ _) | (with_reducible refine Below.setCell ?_ ?_ _) | (with_reducible refine Below.drew ?_) | (with_reducible refine below_drewN ?_ _) | (apply bthen2; (with_reducible assumption)) | go_size)); done))); rintro e uz ⟨rfl, hbz⟩; have hzz := hbz.size; (try simp only [World.size_alloc, World.size_setCell, World.size_drew, World.heap_drewN] at hzz)))
    all_goals (go_wp2_with fail; go_meet; exact ⟨rfl, rfl, (by repeat' (first | (with_reducible exact Below.refl _ _) | (with_reducible assumption) | (with_reducible refine Below.alloc ?_ ?_ _) | (with_reducible refine Below.setCell ?_ ?_ _) | (with_reducible refine Below.drew ?_) | (with_reducible refine below_drewN ?_ _) | (apply bthen2; (with_reducible assumption)) | go_size))⟩)
  case rest =>
  obtain ⟨rfl, rfl, hb⟩ := hcut
  obtain ⟨V17, hV⟩ : ∃ x, x = wc := ⟨_, rfl⟩
  subst hV
  have hz19 := hb.size
  have B20 := B16.below hb
  have B21 := B14.below hb
  have S22 := S14.belowS hb
  have S23 := R14.belowS hb
  have hB : Below w.heap.size w V17 := hB.trans (hb.mono hB.size)
  clear B16 B14 S14 R14 hb
  try go_upto_region 10 with fail
  go_region_held3 (fun w' => Below V17.heap.size V17 w' ∧ w'.cell? ⟨bx14, 0, none⟩ = some (.bool n0) ∧ w'.cell? ⟨bx14, 1, none⟩ = some (.slice a14_ l14_ c14_) ∧ w'.cell? ⟨bx14, 2, none⟩ = some (.bool m0) ∧ w'.cell? ⟨bx14, 3, none⟩ = some (.slice b14_ m14_ d14_) ∧ w'.cell? ⟨w.heap.size, 0, none⟩ = some (.bool n0) ∧ w'.cell? ⟨w.heap.size, 1, none⟩ = some (.slice a0 l0 c0) ∧ w'.cell? ⟨w.heap.size, 2, none⟩ = some (.bool m0) ∧ w'.cell? ⟨w.heap.size, 3, none⟩ = some (.slice b0 p0 q0)) ((refine (fun hbK => And.intro hbK (by exact ⟨(hbK.cell (p := ⟨bx14, 0, none⟩) (B21).1).trans (B21.2.1 0 _ rfl), (hbK.cell (p := ⟨bx14, 1, none⟩) (B21).1).trans (B21.2.1 1 _ rfl), (hbK.cell (p := ⟨bx14, 2, none⟩) (B21).1).trans (B21.2.1 2 _ rfl), (hbK.cell (p := ⟨bx14, 3, none⟩) (B21).1).trans (B21.2.1 3 _ rfl), (hbK.cell (p := ⟨w.heap.size, 0, none⟩) (B20).1).trans (B20.2.1 0 _ rfl), (hbK.cell (p := ⟨w.heap.size, 1, none⟩) (B20).1).trans (B20.2.1 1 _ rfl), (hbK.cell (p := ⟨w.heap.size, 2, none⟩) (B20).1).trans (B20.2.1 2 _ rfl), (hbK.cell (p := ⟨w.heap.size, 3, none⟩) (B20).1).trans (B20.2.1 3 _ rfl)⟩)) ?_; repeat' (first | (with_reducible exact Below.refl _ _) | (with_reducible assumption) | (with_reducible refine Below.alloc ?_ ?_ _) | (with_reducible refine Below.setCell ?_ ?_ _) | (with_reducible refine Below.drew ?_) | (with_reducible refine below_drewN ?_ _) | (apply bthen2; (with_reducible assumption)) | go_size))) ((first | (go_at_call 12; refine (HT0.out _ ?_ ?_).mono ?_; (focus (first | (refine Ints.below hx0 ?_; (repeat' (first | (with_reducible exact Below.refl _ _) | (with_reducible assumption) | (with_reducible refine Below.alloc ?_ ?_ _) | (with_reducible refine Below.setCell ?_ ?_ _) | (with_reducible refine Below.drew ?_) | (with_reducible refine below_drewN ?_ _) | (apply bthen2; (with_reducible assumption)) | go_size)); done) | (refine Ints.below hy0 ?_; (repeat' (first | (with_reducible exact Below.refl _ _) | (with_reducible assumption) | (with_reducible refine Below.alloc ?_ ?_ _) | (with_reducible refine Below.setCell ?_ ?_ _) | (with_reducible refine Below.drew ?_) | (with_reducible refine below_drewN ?_ _) | (apply bthen2; (with_reducible assumption)) | go_size)); done))); (focus (first | (refine Ints.below hx0 ?_; (repeat' (first | (with_reducible exact Below.refl _ _) | (with_reducible assumption) | (with_reducible refine Below.alloc ?_ ?_ _) | (with_reducible refine Below.setCell ?_ ?_ _) | (with_reducible refine Below.drew ?_) | (with_reducible refine below_drewN ?_ _) | (apply bthen2; (with_reducible assumption)) | go_size)); done) | (refine Ints.below hy0 ?_; (repeat' (first | (with_reducible exact Below.refl _ _) | (with_reducible assumption) | (with_reducible refine Below.alloc ?_ ?_ _) | (with_reducible refine Below.setCell ?_ ?_ _) | (with_reducible refine Below.drew ?_) | (with_reducible refine below_drewN ?_ _) | (apply bthen2; (with_reducible assumption)) | go_size)); done))); rintro e ux ⟨tax, tlx, tcx, tbx, tmx, tdx, rfl, Tx, hbx⟩; obtain ⟨ix, jx⟩ := Tx.ints; obtain ⟨lox, hix, sgx, shx, hdx, hlx, hhx⟩ := Tx.segT hbx; (try simp only [World.size_alloc, World.size_setCell, World.size_drew, World.heap_drewN] at hlx); have hzx := hbx.size; (try simp only [World.size_alloc, World.size_setCell, World.size_drew, World.heap_drewN] at hzx); try (have qB := Box.below (by first | exact box_made2 _ _ _ _ | exact box_made4 _ _ _ _ _ _ | (with_reducible assumption)) hbx; (try simp only [World.size_drew, World.heap_drewN] at qB); have qB0 := qB.2.1 0 _ rfl; have qB1 := qB.2.1 1 _ rfl; (try have qB2 := qB.2.1 2 _ rfl); (try have qB3 := qB.2.1 3 _ rfl); have qBf := qB.2.2)) | (go_at_call 14; refine (eqRatio_same _ _ _ _ _ _ _ _ _ _ _ _ _ _ x0 y0 _ ?_ ?_ ?_ ?_).mono ?_; (focus (first | (refine Ints.below S22.ints ?_; (repeat' (first | (with_reducible exact Below.refl _ _) | (with_reducible assumption) | (with_reducible refine Below.alloc ?_ ?_ _) | (with_reducible refine Below.setCell ?_ ?_ _) | (with_reducible refine Below.drew ?_) | (with_reducible refine below_drewN ?_ _) | (apply bthen2; (with_reducible assumption)) | go_size)); done))); (focus (first | (refine Ints.below S23.ints ?_; (repeat' (first | (with_reducible exact Below.refl _ _) | (with_reducible assumption) | (with_reducible refine Below.alloc ?_ ?_ _) | (with_reducible refine Below.setCell ?_ ?_ _) | (with_reducible refine Below.drew ?_) | (with_reducible refine below_drewN ?_ _) | (apply bthen2; (with_reducible assumption)) | go_size)); done))); (focus (first | (refine Ints.below ix ?_; (repeat' (first | (with_reducible exact Below.refl _ _) | (with_reducible assumption) | (with_reducible refine Below.alloc ?_ ?_ _) | (with_reducible refine Below.setCell ?_ ?_ _) | (with_reducible refine Below.drew ?_) | (with_reducible refine below_drewN ?_ _) | (apply bthen2; (with_reducible assumption)) | go_size)); done))); (focus (first | (refine Ints.below jx ?_; (repeat' (first | (with_reducible exact Below.refl _ _) | (with_reducible assumption) | (with_reducible refine Below.alloc ?_ ?_ _) | (with_reducible refine Below.setCell ?_ ?_ _) | (with_reducible refine Below.drew ?_) | (with_reducible refine below_drewN ?_ _) | (apply bthen2; (with_reducible assumption)) | go_size)); done))); rintro e V24 ⟨rfl, hbz⟩)))
  have hb : Below V17.heap.size V17 V24 := (by repeat' (first | (with_reducible exact Below.refl _ _) | (with_reducible assumption) | (with_reducible refine Below.alloc ?_ ?_ _) | (with_reducible refine Below.setCell ?_ ?_ _) | (with_reducible refine Below.drew ?_) | (with_reducible refine below_drewN ?_ _) | (apply bthen2; (with_reducible assumption)) | go_size))
  have hz25 := hb.size
  have B26 := B20.below hb
  have B27 := B21.below hb
  have S28 := S22.belowS hb
  have S29 := S23.belowS hb
  have hB : Below w.heap.size w V24 := hB.trans (hb.mono hB.size)
  clear B20 B21 S22 S23 hb
  go_wp2_with fail
  go_ret
  exact gives rfl hB

end Go.Proofs.YtopdeoicglkbkaaDoor
