import Derived.Test.YtopdeoicglkbkaaDX3
import Derived.Test.YtopdeoicglkbkaaBox
set_option linter.unusedSimpArgs false
set_option linter.unusedVariables false
namespace Go.Proofs.Ytopdeoicglkbkaa
open Go.RowKit

set_option maxRecDepth 100000 in
set_option maxHeartbeats 4000000 in
theorem walk_FnExactDoubleX (a b : Int) (n0 : Bool) (a0 : Option Addr) (l0 c0 : Nat) (x0 : List Int) (m0 : Bool) (b0 : Option Addr) (p0 q0 : Nat) (y0 : List Int) (w : World) (_w_a : (Lit.int .i64 a).wf = true) (_w_b : (Lit.int .i64 b).wf = true) (hx0 : Ints w (.slice a0 l0 c0) x0) (hy0 : Ints w (.slice b0 p0 q0) y0) : Calls Try.prog 12 #[.agg #[.int .i64 a, .int .i64 b], .agg #[.bool n0, .slice a0 l0 c0, .bool m0, .slice b0 p0 q0]] w (Gives (.bool true) w) := by
  obtain ⟨L0, hL0⟩ : ∃ L, szR x0 y0 1048576 = L := ⟨_, rfl⟩
  have HZ0 := Lib.hid (fun W h h2 => szRatio_any n0 m0 a0 b0 l0 c0 p0 q0 x0 y0 1048576 (by decide) (by decide) W h h2)
  rw [hL0] at HZ0
  by_cases g0 : L0 < 0
  · clear hL0
    go_enter Try.func12, Try.ntmps12
    go_upto_region 2 with fail
    refine name_world (fun V0 hV0 => ?_)
    have B1 : Box V0 (w.heap.size) [.int .i64 a, .int .i64 b] := by subst hV0; exact box_two (by first | (simp; done) | (simp; omega)) (by simp [go_sem]) (by simp [go_sem]) (fun o => by simp [go_sem])
    have B2 : Box V0 (w.heap.size + 1) [.bool n0, .slice a0 l0 c0, .bool m0, .slice b0 p0 q0] := by subst hV0; exact box_four (by first | (simp; done) | (simp; omega)) (by simp [go_sem]) (by simp [go_sem]) (by simp [go_sem]) (by simp [go_sem]) (fun o => by simp [go_sem])
    have hB : Below w.heap.size w V0 := by subst hV0; exact (by repeat' (first | (with_reducible exact Below.refl _ _) | (with_reducible assumption) | (with_reducible refine Below.alloc ?_ ?_ _) | (with_reducible refine Below.setCell ?_ ?_ _) | (with_reducible refine Below.drew ?_) | (with_reducible refine below_drewN ?_ _) | (apply bthen2; (with_reducible assumption)) | go_size))
    have hV1 : V0.heap.size ≤ w.heap.size + 1 + 1 ∧ w.heap.size + 1 + 1 ≤ V0.heap.size := by subst hV0; simp
    clear hV0
    have B2_0 := B2.2.1 0 _ rfl
    have B2_1 := B2.2.1 1 _ rfl
    have B2_2 := B2.2.1 2 _ rfl
    have B2_3 := B2.2.1 3 _ rfl
    go_wp2_with fail
    refine (HZ0.out _ ?_ ?_).mono ?_
    · exact Ints.below hx0 hB
    · exact Ints.below hy0 hB
    rintro e V3 ⟨rfl, hb⟩
    clear B2_0 B2_1 B2_2 B2_3
    have hz4 := hb.size
    have B5 := B1.below hb
    have B6 := B2.below hb
    have hB : Below w.heap.size w V3 := hB.trans (hb.mono hB.size)
    clear B1 B2 hb
    go_wp2
    go_ret
    exact gives rfl hB
  have hq0 := szR_ok (xs := x0) (ys := y0) (left := 1048576) (by decide) (by decide) (by rw [hL0]; exact g0)
  rw [hL0] at hq0
  have HT1 := Lib.hid (fun W h h2 => toRatio_two n0 m0 a0 b0 l0 c0 p0 q0 x0 y0 W h h2 hq0.2.1 hq0.2.2)
  have HS := Lib.hid (fun p0 q0 r0 p1 q1 r1 W h0 h1 => sDoubleX_any a b n0 m0 p0 p1 q0 q1 r0 r1 x0 y0 W h0 h1)
  have HI := Lib.hid (fun p0 q0 r0 p1 q1 r1 W h0 h1 => DoubleX_any a b n0 m0 p0 p1 q0 q1 r0 r1 x0 y0 W h0 h1)
  have hL1 := dxV_len1 a b n0 m0 x0 y0
  have hL2 := dxV_len2 a b n0 m0 x0 y0
  obtain ⟨ok, rn, RX, rm, RY, hR⟩ : ∃ ok rn RX rm RY, dxV a b n0 x0 m0 y0 = (ok, rn, RX, rm, RY) := ⟨_, _, _, _, _, rfl⟩
  rw [hR] at HS HI hL1 hL2
  dsimp only at HS HI hL1 hL2
  clear hR
  obtain ⟨hn0, hm0⟩ := hq0.2
  clear hL0 hq0
  go_enter Try.func12, Try.ntmps12
  go_upto_region 2 with fail
  refine name_world (fun V0 hV0 => ?_)
  have B7 : Box V0 (w.heap.size) [.int .i64 a, .int .i64 b] := by subst hV0; exact box_two (by first | (simp; done) | (simp; omega)) (by simp [go_sem]) (by simp [go_sem]) (fun o => by simp [go_sem])
  have B8 : Box V0 (w.heap.size + 1) [.bool n0, .slice a0 l0 c0, .bool m0, .slice b0 p0 q0] := by subst hV0; exact box_four (by first | (simp; done) | (simp; omega)) (by simp [go_sem]) (by simp [go_sem]) (by simp [go_sem]) (by simp [go_sem]) (fun o => by simp [go_sem])
  have hB : Below w.heap.size w V0 := by subst hV0; exact (by repeat' (first | (with_reducible exact Below.refl _ _) | (with_reducible assumption) | (with_reducible refine Below.alloc ?_ ?_ _) | (with_reducible refine Below.setCell ?_ ?_ _) | (with_reducible refine Below.drew ?_) | (with_reducible refine below_drewN ?_ _) | (apply bthen2; (with_reducible assumption)) | go_size))
  have hV1 : V0.heap.size ≤ w.heap.size + 1 + 1 ∧ w.heap.size + 1 + 1 ≤ V0.heap.size := by subst hV0; simp
  clear hV0
  have B8_0 := B8.2.1 0 _ rfl
  have B8_1 := B8.2.1 1 _ rfl
  have B8_2 := B8.2.1 2 _ rfl
  have B8_3 := B8.2.1 3 _ rfl
  go_wp2_with fail
  refine (HZ0.out _ ?_ ?_).mono ?_
  · exact Ints.below hx0 hB
  · exact Ints.below hy0 hB
  rintro e V9 ⟨rfl, hb⟩
  clear B8_0 B8_1 B8_2 B8_3
  have hz10 := hb.size
  have B11 := B7.below hb
  have B12 := B8.below hb
  have hB : Below w.heap.size w V9 := hB.trans (hb.mono hB.size)
  clear B7 B8 hb
  try go_upto_region 5 with fail
  go_cut [6, 7] (fun s6 s7 wx => ∃ (bx : Nat) (a : Option Addr) (l c : Nat) (b : Option Addr) (m d lo hi : Nat), s6 = .pointer (some ⟨bx, 0, none⟩) ∧ s7 = .bool ok ∧ Box wx bx [.bool rn, .slice a l c, .bool rm, .slice b m d] ∧ Seg wx lo hi (.slice a l c) RX ∧ Seg wx lo hi (.slice b m d) RY ∧ (∀ k, (Value.slice a l c).ownBlock = some k → (Value.slice b m d).ownBlock ≠ some k) ∧ V9.heap.size ≤ lo ∧ hi ≤ wx.heap.size ∧ V9.heap.size ≤ bx ∧ (bx < lo ∨ hi ≤ bx) ∧ Below V9.heap.size V9 wx)
  case first =>
    go_region_held3 (fun w' => Below V9.heap.size V9 w' ∧ w'.cell? ⟨w.heap.size, 0, none⟩ = some (.int .i64 a) ∧ w'.cell? ⟨w.heap.size, 1, none⟩ = some (.int .i64 b) ∧ w'.cell? ⟨w.heap.size + 1, 0, none⟩ = some (.bool n0) ∧ w'.cell? ⟨w.heap.size + 1, 1, none⟩ = some (.slice a0 l0 c0) ∧ w'.cell? ⟨w.heap.size + 1, 2, none⟩ = some (.bool m0) ∧ w'.cell? ⟨w.heap.size + 1, 3, none⟩ = some (.slice b0 p0 q0)) ((refine (fun hbK => And.intro hbK (by exact ⟨(hbK.cell (p := ⟨w.heap.size, 0, none⟩) (B11).1).trans (B11.2.1 0 _ rfl), (hbK.cell (p := ⟨w.heap.size, 1, none⟩) (B11).1).trans (B11.2.1 1 _ rfl), (hbK.cell (p := ⟨w.heap.size + 1, 0, none⟩) (B12).1).trans (B12.2.1 0 _ rfl), (hbK.cell (p := ⟨w.heap.size + 1, 1, none⟩) (B12).1).trans (B12.2.1 1 _ rfl), (hbK.cell (p := ⟨w.heap.size + 1, 2, none⟩) (B12).1).trans (B12.2.1 2 _ rfl), (hbK.cell (p := ⟨w.heap.size + 1, 3, none⟩) (B12).1).trans (B12.2.1 3 _ rfl)⟩)) ?_; repeat' (first | (with_reducible exact Below.refl _ _) | (with_reducible assumption) | (with_reducible refine Below.alloc ?_ ?_ _) | (with_reducible refine Below.setCell ?_ ?_ _) | (with_reducible refine Below.drew ?_) | (with_reducible refine below_drewN ?_ _) | (apply bthen2; (with_reducible assumption)) | go_size))) ((first | (go_at_call 20; refine (toCurve_any a b _).mono ?_; rintro e ua ⟨rfl, hba⟩; have hza := hba.size; (try simp only [World.size_alloc, World.size_setCell, World.size_drew, World.heap_drewN] at hza); try (have qB := Box.below (by first | exact box_made2 _ _ _ _ | exact box_made4 _ _ _ _ _ _ | (with_reducible assumption)) hba; (try simp only [World.size_drew, World.heap_drewN] at qB); have qB0 := qB.2.1 0 _ rfl; have qB1 := qB.2.1 1 _ rfl; (try have qB2 := qB.2.1 2 _ rfl); (try have qB3 := qB.2.1 3 _ rfl); have qBf := qB.2.2)) | (go_at_call 32; refine (HT1.out _ ?_ ?_).mono ?_; (focus (first | (refine Ints.below hx0 ?_; (repeat' (first | (with_reducible exact Below.refl _ _) | (with_reducible assumption) | (with_reducible refine Below.alloc ?_ ?_ _) | (with_reducible refine Below.setCell ?_ ?_ _) | (with_reducible refine Below.drew ?_) | (with_reducible refine below_drewN ?_ _) | (apply bthen2; (with_reducible assumption)) | go_size)); done) | (refine Ints.below hy0 ?_; (repeat' (first | (with_reducible exact Below.refl _ _) | (with_reducible assumption) | (with_reducible refine Below.alloc ?_ ?_ _) | (with_reducible refine Below.setCell ?_ ?_ _) | (with_reducible refine Below.drew ?_) | (with_reducible refine below_drewN ?_ _) | (apply bthen2; (with_reducible assumption)) | go_size)); done))); (focus (first | (refine Ints.below hx0 ?_; (repeat' (first | (with_reducible exact Below.refl _ _) | (with_reducible assumption) | (with_reducible refine Below.alloc ?_ ?_ _) | (with_reducible refine Below.setCell ?_ ?_ _) | (with_reducible refine Below.drew ?_) | (with_reducible refine below_drewN ?_ _) | (apply bthen2; (with_reducible assumption)) | go_size)); done) | (refine Ints.below hy0 ?_; (repeat' (first | (with_reducible exact Below.refl _ _) | (with_reducible assumption) | (with_reducible refine Below.alloc ?_ ?_ _) | (with_reducible refine Below.setCell ?_ ?_ _) | (with_reducible refine Below.drew ?_) | (with_reducible refine below_drewN ?_ _) | (apply bthen2; (with_reducible assumption)) | go_size)); done))); rintro e ub ⟨tab, tlb, tcb, tbb, tmb, tdb, rfl, Tb, hbb⟩; obtain ⟨ib, jb⟩ := Tb.ints; obtain ⟨lob, hib, sgb, shb, hdb, hlb, hhb⟩ := Tb.segT hbb; (try simp only [World.size_alloc, World.size_setCell, World.size_drew, World.heap_drewN] at hlb); have hzb := hbb.size; (try simp only [World.size_alloc, World.size_setCell, World.size_drew, World.heap_drewN] at hzb); try (have qB := Box.below (by first | exact box_made2 _ _ _ _ | exact box_made4 _ _ _ _ _ _ | (with_reducible assumption)) hbb; (try simp only [World.size_drew, World.heap_drewN] at qB); have qB0 := qB.2.1 0 _ rfl; have qB1 := qB.2.1 1 _ rfl; (try have qB2 := qB.2.1 2 _ rfl); (try have qB3 := qB.2.1 3 _ rfl); have qBf := qB.2.2)) | (go_at_call 44; refine (HS.out _ _ _ _ _ _  _ ?_ ?_ ).mono ?_; (focus (first | (refine Ints.below ib ?_; (repeat' (first | (with_reducible exact Below.refl _ _) | (with_reducible assumption) | (with_reducible refine Below.alloc ?_ ?_ _) | (with_reducible refine Below.setCell ?_ ?_ _) | (with_reducible refine Below.drew ?_) | (with_reducible refine below_drewN ?_ _) | (apply bthen2; (with_reducible assumption)) | go_size)); done))); (focus (first | (refine Ints.below jb ?_; (repeat' (first | (with_reducible exact Below.refl _ _) | (with_reducible assumption) | (with_reducible refine Below.alloc ?_ ?_ _) | (with_reducible refine Below.setCell ?_ ?_ _) | (with_reducible refine Below.drew ?_) | (with_reducible refine below_drewN ?_ _) | (apply bthen2; (with_reducible assumption)) | go_size)); done))); rintro e uz ⟨raz, rlz, rcz, rbz, rmz, rdz, rfl, Tz, hbz⟩; obtain ⟨loz, hiz, sgz, shz, hdz, hlz, hhz⟩ := Tz.segT hbz; (try simp only [World.size_alloc, World.size_setCell, World.size_drew, World.heap_drewN] at hlz); have hzz := hbz.size; (try simp only [World.size_alloc, World.size_setCell, World.size_drew, World.heap_drewN] at hzz); try (have qB := Box.below (by first | exact box_made2 _ _ _ _ | exact box_made4 _ _ _ _ _ _ | (with_reducible assumption)) hbz; (try simp only [World.size_drew, World.heap_drewN] at qB); have qB0 := qB.2.1 0 _ rfl; have qB1 := qB.2.1 1 _ rfl; (try have qB2 := qB.2.1 2 _ rfl); (try have qB3 := qB.2.1 3 _ rfl); have qBf := qB.2.2))))
    all_goals (go_wp2_with fail; go_meet; exact ⟨_, raz, rlz, rcz, rbz, rmz, rdz, loz, hiz, rfl, rfl, (by first | (with_reducible exact box_made4 _ _ _ _ _ _) | (exact Box.set (Box.set (Box.set (Box.set (vs := [_, _, _, _]) (by first | assumption | exact box_made4 _ _ _ _ _ _) 0 (by simp) _) 1 (by simp) _) 2 (by simp) _) 3 (by simp) _)), (by (repeat' (first | (with_reducible assumption) | (with_reducible refine Seg.set ?_ ?_ _) | (with_reducible refine Seg.alloc ?_ _) | (with_reducible refine Seg.drew ?_))); all_goals (first | omega | (simp; done) | (simp; omega))), (by (repeat' (first | (with_reducible assumption) | (with_reducible refine Seg.set ?_ ?_ _) | (with_reducible refine Seg.alloc ?_ _) | (with_reducible refine Seg.drew ?_))); all_goals (first | omega | (simp; done) | (simp; omega))), hdz, (by first | omega | (simp; done) | (simp; omega)), (by first | omega | (simp; done) | (simp; omega)), (by first | omega | (simp; done) | (simp; omega)), (by first | omega | (simp; done) | (simp; omega)), (by repeat' (first | (with_reducible exact Below.refl _ _) | (with_reducible assumption) | (with_reducible refine Below.alloc ?_ ?_ _) | (with_reducible refine Below.setCell ?_ ?_ _) | (with_reducible refine Below.drew ?_) | (with_reducible refine below_drewN ?_ _) | (apply bthen2; (with_reducible assumption)) | go_size))⟩)
  case rest =>
  obtain ⟨bx14, a14_, l14_, c14_, b14_, m14_, d14_, lo14, hi14, rfl, rfl, B14, S14, R14, D14, o14a, o14b, o14c, o14d, hb⟩ := hcut
  obtain ⟨V13, hV⟩ : ∃ x, x = wc := ⟨_, rfl⟩
  subst hV
  have hu14 := B14.1
  have hz15 := hb.size
  have B16 := B11.below hb
  have B17 := B12.below hb
  have hB : Below w.heap.size w V13 := hB.trans (hb.mono hB.size)
  clear B11 B12 hb
  try go_upto_region 6 with fail
  go_cut [8] (fun s8 wx => ∃ (bx : Nat) (a : Option Addr) (l c : Nat) (b : Option Addr) (m d lo hi : Nat), s8 = .pointer (some ⟨bx, 0, none⟩) ∧ Box wx bx [.bool n0, .slice a l c, .bool m0, .slice b m d] ∧ Seg wx lo hi (.slice a l c) x0 ∧ Seg wx lo hi (.slice b m d) y0 ∧ (∀ k, (Value.slice a l c).ownBlock = some k → (Value.slice b m d).ownBlock ≠ some k) ∧ V13.heap.size ≤ lo ∧ hi ≤ wx.heap.size ∧ V13.heap.size ≤ bx ∧ (bx < lo ∨ hi ≤ bx) ∧ Below V13.heap.size V13 wx)
  case first =>
    have B17_0 := B17.2.1 0 _ rfl
    have B17_1 := B17.2.1 1 _ rfl
    have B17_2 := B17.2.1 2 _ rfl
    have B17_3 := B17.2.1 3 _ rfl
    go_wp2_with (first | (go_at_call 32; refine (HT1.out _ ?_ ?_).mono ?_; (focus (first | (refine Ints.below hx0 ?_; (repeat' (first | (with_reducible exact Below.refl _ _) | (with_reducible assumption) | (with_reducible refine Below.alloc ?_ ?_ _) | (with_reducible refine Below.setCell ?_ ?_ _) | (with_reducible refine Below.drew ?_) | (with_reducible refine below_drewN ?_ _) | (apply bthen2; (with_reducible assumption)) | go_size)); done) | (refine Ints.below hy0 ?_; (repeat' (first | (with_reducible exact Below.refl _ _) | (with_reducible assumption) | (with_reducible refine Below.alloc ?_ ?_ _) | (with_reducible refine Below.setCell ?_ ?_ _) | (with_reducible refine Below.drew ?_) | (with_reducible refine below_drewN ?_ _) | (apply bthen2; (with_reducible assumption)) | go_size)); done))); (focus (first | (refine Ints.below hx0 ?_; (repeat' (first | (with_reducible exact Below.refl _ _) | (with_reducible assumption) | (with_reducible refine Below.alloc ?_ ?_ _) | (with_reducible refine Below.setCell ?_ ?_ _) | (with_reducible refine Below.drew ?_) | (with_reducible refine below_drewN ?_ _) | (apply bthen2; (with_reducible assumption)) | go_size)); done) | (refine Ints.below hy0 ?_; (repeat' (first | (with_reducible exact Below.refl _ _) | (with_reducible assumption) | (with_reducible refine Below.alloc ?_ ?_ _) | (with_reducible refine Below.setCell ?_ ?_ _) | (with_reducible refine Below.drew ?_) | (with_reducible refine below_drewN ?_ _) | (apply bthen2; (with_reducible assumption)) | go_size)); done))); rintro e uz ⟨taz, tlz, tcz, tbz, tmz, tdz, rfl, Tz, hbz⟩; obtain ⟨iz, jz⟩ := Tz.ints; obtain ⟨loz, hiz, sgz, shz, hdz, hlz, hhz⟩ := Tz.segT hbz; (try simp only [World.size_alloc, World.size_setCell, World.size_drew, World.heap_drewN] at hlz); have hzz := hbz.size; (try simp only [World.size_alloc, World.size_setCell, World.size_drew, World.heap_drewN] at hzz); try (have qB := Box.below (by first | exact box_made2 _ _ _ _ | exact box_made4 _ _ _ _ _ _ | (with_reducible assumption)) hbz; (try simp only [World.size_drew, World.heap_drewN] at qB); have qB0 := qB.2.1 0 _ rfl; have qB1 := qB.2.1 1 _ rfl; (try have qB2 := qB.2.1 2 _ rfl); (try have qB3 := qB.2.1 3 _ rfl); have qBf := qB.2.2); try (have qB := Box.below (by first | exact box_made2 _ _ _ _ | exact box_made4 _ _ _ _ _ _ | (with_reducible assumption)) hbz; (try simp only [World.size_drew, World.heap_drewN] at qB); have qB0 := qB.2.1 0 _ rfl; have qB1 := qB.2.1 1 _ rfl; (try have qB2 := qB.2.1 2 _ rfl); (try have qB3 := qB.2.1 3 _ rfl); have qBf := qB.2.2)))
    all_goals (go_wp2_with fail; go_meet; exact ⟨_, taz, tlz, tcz, tbz, tmz, tdz, loz, hiz, rfl, (by first | (with_reducible exact box_made4 _ _ _ _ _ _) | (exact Box.set (Box.set (Box.set (Box.set (vs := [_, _, _, _]) (by first | assumption | exact box_made4 _ _ _ _ _ _) 0 (by simp) _) 1 (by simp) _) 2 (by simp) _) 3 (by simp) _)), (by (repeat' (first | (with_reducible assumption) | (with_reducible refine Seg.set ?_ ?_ _) | (with_reducible refine Seg.alloc ?_ _) | (with_reducible refine Seg.drew ?_))); all_goals (first | omega | (simp; done) | (simp; omega))), (by (repeat' (first | (with_reducible assumption) | (with_reducible refine Seg.set ?_ ?_ _) | (with_reducible refine Seg.alloc ?_ _) | (with_reducible refine Seg.drew ?_))); all_goals (first | omega | (simp; done) | (simp; omega))), hdz, (by first | omega | (simp; done) | (simp; omega)), (by first | omega | (simp; done) | (simp; omega)), (by first | omega | (simp; done) | (simp; omega)), (by first | omega | (simp; done) | (simp; omega)), (by repeat' (first | (with_reducible exact Below.refl _ _) | (with_reducible assumption) | (with_reducible refine Below.alloc ?_ ?_ _) | (with_reducible refine Below.setCell ?_ ?_ _) | (with_reducible refine Below.drew ?_) | (with_reducible refine below_drewN ?_ _) | (apply bthen2; (with_reducible assumption)) | go_size))⟩)
  case rest =>
  obtain ⟨bx19, a19_, l19_, c19_, b19_, m19_, d19_, lo19, hi19, rfl, B19, S19, R19, D19, o19a, o19b, o19c, o19d, hb⟩ := hcut
  obtain ⟨V18, hV⟩ : ∃ x, x = wc := ⟨_, rfl⟩
  subst hV
  have hu19 := B19.1
  have hz20 := hb.size
  have B21 := B16.below hb
  have B22 := B17.below hb
  have B23 := B14.below hb
  have S24 := S14.belowS hb
  have S25 := R14.belowS hb
  have hB : Below w.heap.size w V18 := hB.trans (hb.mono hB.size)
  clear B16 B17 B14 S14 R14 hb
  try go_upto_region 7 with fail
  go_cut [9, 10] (fun s9 s10 wx => ∃ (bx : Nat) (a : Option Addr) (l c : Nat) (b : Option Addr) (m d lo hi : Nat), s9 = .pointer (some ⟨bx, 0, none⟩) ∧ s10 = .bool ok ∧ Box wx bx [.bool rn, .slice a l c, .bool rm, .slice b m d] ∧ Seg wx lo hi (.slice a l c) RX ∧ Seg wx lo hi (.slice b m d) RY ∧ (∀ k, (Value.slice a l c).ownBlock = some k → (Value.slice b m d).ownBlock ≠ some k) ∧ V18.heap.size ≤ lo ∧ hi ≤ wx.heap.size ∧ V18.heap.size ≤ bx ∧ (bx < lo ∨ hi ≤ bx) ∧ Below V18.heap.size V18 wx)
  case first =>
    go_region_held3 (fun w' => Below V18.heap.size V18 w' ∧ w'.cell? ⟨w.heap.size, 0, none⟩ = some (.int .i64 a) ∧ w'.cell? ⟨w.heap.size, 1, none⟩ = some (.int .i64 b) ∧ w'.cell? ⟨bx19, 0, none⟩ = some (.bool n0) ∧ w'.cell? ⟨bx19, 1, none⟩ = some (.slice a19_ l19_ c19_) ∧ w'.cell? ⟨bx19, 2, none⟩ = some (.bool m0) ∧ w'.cell? ⟨bx19, 3, none⟩ = some (.slice b19_ m19_ d19_)) ((refine (fun hbK => And.intro hbK (by exact ⟨(hbK.cell (p := ⟨w.heap.size, 0, none⟩) (B21).1).trans (B21.2.1 0 _ rfl), (hbK.cell (p := ⟨w.heap.size, 1, none⟩) (B21).1).trans (B21.2.1 1 _ rfl), (hbK.cell (p := ⟨bx19, 0, none⟩) (B19).1).trans (B19.2.1 0 _ rfl), (hbK.cell (p := ⟨bx19, 1, none⟩) (B19).1).trans (B19.2.1 1 _ rfl), (hbK.cell (p := ⟨bx19, 2, none⟩) (B19).1).trans (B19.2.1 2 _ rfl), (hbK.cell (p := ⟨bx19, 3, none⟩) (B19).1).trans (B19.2.1 3 _ rfl)⟩)) ?_; repeat' (first | (with_reducible exact Below.refl _ _) | (with_reducible assumption) | (with_reducible refine Below.alloc ?_ ?_ _) | (with_reducible refine Below.setCell ?_ ?_ _) | (with_reducible refine Below.drew ?_) | (with_reducible refine below_drewN ?_ _) | (apply bthen2; (with_reducible assumption)) | go_size))) ((first | (go_at_call 20; refine (toCurve_any a b _).mono ?_; rintro e ua ⟨rfl, hba⟩; have hza := hba.size; (try simp only [World.size_alloc, World.size_setCell, World.size_drew, World.heap_drewN] at hza); try (have qB := Box.below (by first | exact box_made2 _ _ _ _ | exact box_made4 _ _ _ _ _ _ | (with_reducible assumption)) hba; (try simp only [World.size_drew, World.heap_drewN] at qB); have qB0 := qB.2.1 0 _ rfl; have qB1 := qB.2.1 1 _ rfl; (try have qB2 := qB.2.1 2 _ rfl); (try have qB3 := qB.2.1 3 _ rfl); have qBf := qB.2.2)) | (go_at_call 45; refine (HI.out _ _ _ _ _ _  _ ?_ ?_ ).mono ?_; (focus (first | (refine Ints.below S19.ints ?_; (repeat' (first | (with_reducible exact Below.refl _ _) | (with_reducible assumption) | (with_reducible refine Below.alloc ?_ ?_ _) | (with_reducible refine Below.setCell ?_ ?_ _) | (with_reducible refine Below.drew ?_) | (with_reducible refine below_drewN ?_ _) | (apply bthen2; (with_reducible assumption)) | go_size)); done))); (focus (first | (refine Ints.below R19.ints ?_; (repeat' (first | (with_reducible exact Below.refl _ _) | (with_reducible assumption) | (with_reducible refine Below.alloc ?_ ?_ _) | (with_reducible refine Below.setCell ?_ ?_ _) | (with_reducible refine Below.drew ?_) | (with_reducible refine below_drewN ?_ _) | (apply bthen2; (with_reducible assumption)) | go_size)); done))); rintro e uz ⟨raz, rlz, rcz, rbz, rmz, rdz, rfl, Tz, hbz⟩; obtain ⟨loz, hiz, sgz, shz, hdz, hlz, hhz⟩ := Tz.segT hbz; (try simp only [World.size_alloc, World.size_setCell, World.size_drew, World.heap_drewN] at hlz); have hzz := hbz.size; (try simp only [World.size_alloc, World.size_setCell, World.size_drew, World.heap_drewN] at hzz); try (have qB := Box.below (by first | exact box_made2 _ _ _ _ | exact box_made4 _ _ _ _ _ _ | (with_reducible assumption)) hbz; (try simp only [World.size_drew, World.heap_drewN] at qB); have qB0 := qB.2.1 0 _ rfl; have qB1 := qB.2.1 1 _ rfl; (try have qB2 := qB.2.1 2 _ rfl); (try have qB3 := qB.2.1 3 _ rfl); have qBf := qB.2.2))))
    all_goals (go_wp2_with fail; go_meet; exact ⟨_, raz, rlz, rcz, rbz, rmz, rdz, loz, hiz, rfl, rfl, (by first | (with_reducible exact box_made4 _ _ _ _ _ _) | (exact Box.set (Box.set (Box.set (Box.set (vs := [_, _, _, _]) (by first | assumption | exact box_made4 _ _ _ _ _ _) 0 (by simp) _) 1 (by simp) _) 2 (by simp) _) 3 (by simp) _)), (by (repeat' (first | (with_reducible assumption) | (with_reducible refine Seg.set ?_ ?_ _) | (with_reducible refine Seg.alloc ?_ _) | (with_reducible refine Seg.drew ?_))); all_goals (first | omega | (simp; done) | (simp; omega))), (by (repeat' (first | (with_reducible assumption) | (with_reducible refine Seg.set ?_ ?_ _) | (with_reducible refine Seg.alloc ?_ _) | (with_reducible refine Seg.drew ?_))); all_goals (first | omega | (simp; done) | (simp; omega))), hdz, (by first | omega | (simp; done) | (simp; omega)), (by first | omega | (simp; done) | (simp; omega)), (by first | omega | (simp; done) | (simp; omega)), (by first | omega | (simp; done) | (simp; omega)), (by repeat' (first | (with_reducible exact Below.refl _ _) | (with_reducible assumption) | (with_reducible refine Below.alloc ?_ ?_ _) | (with_reducible refine Below.setCell ?_ ?_ _) | (with_reducible refine Below.drew ?_) | (with_reducible refine below_drewN ?_ _) | (apply bthen2; (with_reducible assumption)) | go_size))⟩)
  case rest =>
  obtain ⟨bx27, a27_, l27_, c27_, b27_, m27_, d27_, lo27, hi27, rfl, rfl, B27, S27, R27, D27, o27a, o27b, o27c, o27d, hb⟩ := hcut
  obtain ⟨V26, hV⟩ : ∃ x, x = wc := ⟨_, rfl⟩
  subst hV
  have hu27 := B27.1
  have hz28 := hb.size
  have B29 := B21.below hb
  have B30 := B22.below hb
  have B31 := B23.below hb
  have B32 := B19.below hb
  have S33 := S24.belowS hb
  have S34 := S25.belowS hb
  have S35 := S19.belowS hb
  have S36 := R19.belowS hb
  have hB : Below w.heap.size w V26 := hB.trans (hb.mono hB.size)
  clear B21 B22 B23 B19 S24 S25 S19 R19 hb
  have B27_0 := B27.2.1 0 _ rfl
  have B27_1 := B27.2.1 1 _ rfl
  have B27_2 := B27.2.1 2 _ rfl
  have B27_3 := B27.2.1 3 _ rfl
  have B31_0 := B31.2.1 0 _ rfl
  have B31_1 := B31.2.1 1 _ rfl
  have B31_2 := B31.2.1 2 _ rfl
  have B31_3 := B31.2.1 3 _ rfl
  go_wp2_with fail
  refine (eqRatio_same _ _ _ _ _ _ _ _ _ _ _ _ _ _ RX RY _ ?_ ?_ ?_ ?_).mono ?_
  · exact S27.ints
  · exact R27.ints
  · exact S33.ints
  · exact S34.ints
  rintro e V37 ⟨rfl, hb⟩
  clear B27_0 B27_1 B27_2 B27_3 B31_0 B31_1 B31_2 B31_3
  have hz38 := hb.size
  have B39 := B29.below hb
  have B40 := B30.below hb
  have B41 := B31.below hb
  have B42 := B32.below hb
  have B43 := B27.below hb
  have S44 := S33.belowS hb
  have S45 := S34.belowS hb
  have S46 := S35.belowS hb
  have S47 := S36.belowS hb
  have S48 := S27.belowS hb
  have S49 := R27.belowS hb
  have hB : Below w.heap.size w V37 := hB.trans (hb.mono hB.size)
  clear B29 B30 B31 B32 B27 S33 S34 S35 S36 S27 R27 hb
  try go_upto_region 10 with fail
  go_region_held3 (fun w' => Below V37.heap.size V37 w' ∧ w'.cell? ⟨bx19, 0, none⟩ = some (.bool n0) ∧ w'.cell? ⟨bx19, 1, none⟩ = some (.slice a19_ l19_ c19_) ∧ w'.cell? ⟨bx19, 2, none⟩ = some (.bool m0) ∧ w'.cell? ⟨bx19, 3, none⟩ = some (.slice b19_ m19_ d19_) ∧ w'.cell? ⟨w.heap.size + 1, 0, none⟩ = some (.bool n0) ∧ w'.cell? ⟨w.heap.size + 1, 1, none⟩ = some (.slice a0 l0 c0) ∧ w'.cell? ⟨w.heap.size + 1, 2, none⟩ = some (.bool m0) ∧ w'.cell? ⟨w.heap.size + 1, 3, none⟩ = some (.slice b0 p0 q0)) ((refine (fun hbK => And.intro hbK (by exact ⟨(hbK.cell (p := ⟨bx19, 0, none⟩) (B42).1).trans (B42.2.1 0 _ rfl), (hbK.cell (p := ⟨bx19, 1, none⟩) (B42).1).trans (B42.2.1 1 _ rfl), (hbK.cell (p := ⟨bx19, 2, none⟩) (B42).1).trans (B42.2.1 2 _ rfl), (hbK.cell (p := ⟨bx19, 3, none⟩) (B42).1).trans (B42.2.1 3 _ rfl), (hbK.cell (p := ⟨w.heap.size + 1, 0, none⟩) (B40).1).trans (B40.2.1 0 _ rfl), (hbK.cell (p := ⟨w.heap.size + 1, 1, none⟩) (B40).1).trans (B40.2.1 1 _ rfl), (hbK.cell (p := ⟨w.heap.size + 1, 2, none⟩) (B40).1).trans (B40.2.1 2 _ rfl), (hbK.cell (p := ⟨w.heap.size + 1, 3, none⟩) (B40).1).trans (B40.2.1 3 _ rfl)⟩)) ?_; repeat' (first | (with_reducible exact Below.refl _ _) | (with_reducible assumption) | (with_reducible refine Below.alloc ?_ ?_ _) | (with_reducible refine Below.setCell ?_ ?_ _) | (with_reducible refine Below.drew ?_) | (with_reducible refine below_drewN ?_ _) | (apply bthen2; (with_reducible assumption)) | go_size))) ((first | (go_at_call 32; refine (HT1.out _ ?_ ?_).mono ?_; (focus (first | (refine Ints.below hx0 ?_; (repeat' (first | (with_reducible exact Below.refl _ _) | (with_reducible assumption) | (with_reducible refine Below.alloc ?_ ?_ _) | (with_reducible refine Below.setCell ?_ ?_ _) | (with_reducible refine Below.drew ?_) | (with_reducible refine below_drewN ?_ _) | (apply bthen2; (with_reducible assumption)) | go_size)); done) | (refine Ints.below hy0 ?_; (repeat' (first | (with_reducible exact Below.refl _ _) | (with_reducible assumption) | (with_reducible refine Below.alloc ?_ ?_ _) | (with_reducible refine Below.setCell ?_ ?_ _) | (with_reducible refine Below.drew ?_) | (with_reducible refine below_drewN ?_ _) | (apply bthen2; (with_reducible assumption)) | go_size)); done))); (focus (first | (refine Ints.below hx0 ?_; (repeat' (first | (with_reducible exact Below.refl _ _) | (with_reducible assumption) | (with_reducible refine Below.alloc ?_ ?_ _) | (with_reducible refine Below.setCell ?_ ?_ _) | (with_reducible refine Below.drew ?_) | (with_reducible refine below_drewN ?_ _) | (apply bthen2; (with_reducible assumption)) | go_size)); done) | (refine Ints.below hy0 ?_; (repeat' (first | (with_reducible exact Below.refl _ _) | (with_reducible assumption) | (with_reducible refine Below.alloc ?_ ?_ _) | (with_reducible refine Below.setCell ?_ ?_ _) | (with_reducible refine Below.drew ?_) | (with_reducible refine below_drewN ?_ _) | (apply bthen2; (with_reducible assumption)) | go_size)); done))); rintro e ux ⟨tax, tlx, tcx, tbx, tmx, tdx, rfl, Tx, hbx⟩; obtain ⟨ix, jx⟩ := Tx.ints; obtain ⟨lox, hix, sgx, shx, hdx, hlx, hhx⟩ := Tx.segT hbx; (try simp only [World.size_alloc, World.size_setCell, World.size_drew, World.heap_drewN] at hlx); have hzx := hbx.size; (try simp only [World.size_alloc, World.size_setCell, World.size_drew, World.heap_drewN] at hzx); try (have qB := Box.below (by first | exact box_made2 _ _ _ _ | exact box_made4 _ _ _ _ _ _ | (with_reducible assumption)) hbx; (try simp only [World.size_drew, World.heap_drewN] at qB); have qB0 := qB.2.1 0 _ rfl; have qB1 := qB.2.1 1 _ rfl; (try have qB2 := qB.2.1 2 _ rfl); (try have qB3 := qB.2.1 3 _ rfl); have qBf := qB.2.2)) | (go_at_call 16; refine (eqRatio_same _ _ _ _ _ _ _ _ _ _ _ _ _ _ x0 y0 _ ?_ ?_ ?_ ?_).mono ?_; (focus (first | (refine Ints.below S46.ints ?_; (repeat' (first | (with_reducible exact Below.refl _ _) | (with_reducible assumption) | (with_reducible refine Below.alloc ?_ ?_ _) | (with_reducible refine Below.setCell ?_ ?_ _) | (with_reducible refine Below.drew ?_) | (with_reducible refine below_drewN ?_ _) | (apply bthen2; (with_reducible assumption)) | go_size)); done))); (focus (first | (refine Ints.below S47.ints ?_; (repeat' (first | (with_reducible exact Below.refl _ _) | (with_reducible assumption) | (with_reducible refine Below.alloc ?_ ?_ _) | (with_reducible refine Below.setCell ?_ ?_ _) | (with_reducible refine Below.drew ?_) | (with_reducible refine below_drewN ?_ _) | (apply bthen2; (with_reducible assumption)) | go_size)); done))); (focus (first | (refine Ints.below ix ?_; (repeat' (first | (with_reducible exact Below.refl _ _) | (with_reducible assumption) | (with_reducible refine Below.alloc ?_ ?_ _) | (with_reducible refine Below.setCell ?_ ?_ _) | (with_reducible refine Below.drew ?_) | (with_reducible refine below_drewN ?_ _) | (apply bthen2; (with_reducible assumption)) | go_size)); done))); (focus (first | (refine Ints.below jx ?_; (repeat' (first | (with_reducible exact Below.refl _ _) | (with_reducible assumption) | (with_reducible refine Below.alloc ?_ ?_ _) | (with_reducible refine Below.setCell ?_ ?_ _) | (with_reducible refine Below.drew ?_) | (with_reducible refine below_drewN ?_ _) | (apply bthen2; (with_reducible assumption)) | go_size)); done))); rintro e V50 ⟨rfl, hbz⟩)))
  have hb : Below V37.heap.size V37 V50 := (by repeat' (first | (with_reducible exact Below.refl _ _) | (with_reducible assumption) | (with_reducible refine Below.alloc ?_ ?_ _) | (with_reducible refine Below.setCell ?_ ?_ _) | (with_reducible refine Below.drew ?_) | (with_reducible refine below_drewN ?_ _) | (apply bthen2; (with_reducible assumption)) | go_size))
  have hz51 := hb.size
  have B52 := B39.below hb
  have B53 := B40.below hb
  have B54 := B41.below hb
  have B55 := B42.below hb
  have B56 := B43.below hb
  have S57 := S44.belowS hb
  have S58 := S45.belowS hb
  have S59 := S46.belowS hb
  have S60 := S47.belowS hb
  have S61 := S48.belowS hb
  have S62 := S49.belowS hb
  have hB : Below w.heap.size w V50 := hB.trans (hb.mono hB.size)
  clear B39 B40 B41 B42 B43 S44 S45 S46 S47 S48 S49 hb
  have B55_0 := B55.2.1 0 _ rfl
  have B55_1 := B55.2.1 1 _ rfl
  have B55_2 := B55.2.1 2 _ rfl
  have B55_3 := B55.2.1 3 _ rfl
  go_wp2_with fail
  refine (markRatio_T _ _ _ _ _ _ _ _ _ _ _ _ (1) _ S59 S60 D19 (by omega) (by omega)).mono ?_
  rintro e V63 ⟨rfl, S64, S65, hc⟩
  clear B55_0 B55_1 B55_2 B55_3
  have hz66 := hc.size
  have q0 := B52.1
  have B67 := B52.chg hc (by intro e; rcases e with e | e <;> first | (have q1 := S59.rng e; omega) | (have q1 := S60.rng e; omega))
  clear q0
  have q0 := B53.1
  have B68 := B53.chg hc (by intro e; rcases e with e | e <;> first | (have q1 := S59.rng e; omega) | (have q1 := S60.rng e; omega))
  clear q0
  have q0 := B54.1
  have B69 := B54.chg hc (by intro e; rcases e with e | e <;> first | (have q1 := S59.rng e; omega) | (have q1 := S60.rng e; omega))
  clear q0
  have q0 := B55.1
  have B70 := B55.chg hc (by intro e; rcases e with e | e <;> first | (have q1 := S59.rng e; omega) | (have q1 := S60.rng e; omega))
  clear q0
  have q0 := B56.1
  have B71 := B56.chg hc (by intro e; rcases e with e | e <;> first | (have q1 := S59.rng e; omega) | (have q1 := S60.rng e; omega))
  clear q0
  have S72 := S57.chgS hc (by intro k hk e; rcases e with e | e <;> first | (have q1 := S59.rng e; have q2 := S57.rng hk; omega) | (have q1 := S60.rng e; have q2 := S57.rng hk; omega))
  have S73 := S58.chgS hc (by intro k hk e; rcases e with e | e <;> first | (have q1 := S59.rng e; have q2 := S58.rng hk; omega) | (have q1 := S60.rng e; have q2 := S58.rng hk; omega))
  have S76 := S61.chgS hc (by intro k hk e; rcases e with e | e <;> first | (have q1 := S59.rng e; have q2 := S61.rng hk; omega) | (have q1 := S60.rng e; have q2 := S61.rng hk; omega))
  have S77 := S62.chgS hc (by intro k hk e; rcases e with e | e <;> first | (have q1 := S59.rng e; have q2 := S62.rng hk; omega) | (have q1 := S60.rng e; have q2 := S62.rng hk; omega))
  have hB : Below w.heap.size w V63 := hB.trans (hc.below (by intro k e; rcases e with e | e <;> first | (have q1 := S59.rng e; omega) | (have q1 := S60.rng e; omega)) hB.size)
  clear B52 B53 B54 B55 B56 S57 S58 S59 S60 S61 S62 hc
  have B71_0 := B71.2.1 0 _ rfl
  have B71_1 := B71.2.1 1 _ rfl
  have B71_2 := B71.2.1 2 _ rfl
  have B71_3 := B71.2.1 3 _ rfl
  have B69_0 := B69.2.1 0 _ rfl
  have B69_1 := B69.2.1 1 _ rfl
  have B69_2 := B69.2.1 2 _ rfl
  have B69_3 := B69.2.1 3 _ rfl
  go_wp2_with fail
  refine (eqRatio_same _ _ _ _ _ _ _ _ _ _ _ _ _ _ RX RY _ ?_ ?_ ?_ ?_).mono ?_
  · exact S76.ints
  · exact S77.ints
  · exact S72.ints
  · exact S73.ints
  rintro e V78 ⟨rfl, hb⟩
  clear B71_0 B71_1 B71_2 B71_3 B69_0 B69_1 B69_2 B69_3
  have hz79 := hb.size
  have B80 := B67.below hb
  have B81 := B68.below hb
  have B82 := B69.below hb
  have B83 := B70.below hb
  have B84 := B71.below hb
  have S85 := S72.belowS hb
  have S86 := S73.belowS hb
  have S87 := S64.belowS hb
  have S88 := S65.belowS hb
  have S89 := S76.belowS hb
  have S90 := S77.belowS hb
  have hB : Below w.heap.size w V78 := hB.trans (hb.mono hB.size)
  clear B67 B68 B69 B70 B71 S72 S73 S64 S65 S76 S77 hb
  have B84_0 := B84.2.1 0 _ rfl
  have B84_1 := B84.2.1 1 _ rfl
  have B84_2 := B84.2.1 2 _ rfl
  have B84_3 := B84.2.1 3 _ rfl
  go_wp2_with fail
  refine (markRatio_T _ _ _ _ _ _ _ _ _ _ _ _ (1) _ S89 S90 D27 (by omega) (by omega)).mono ?_
  rintro e V91 ⟨rfl, S92, S93, hc⟩
  clear B84_0 B84_1 B84_2 B84_3
  have hz94 := hc.size
  have q0 := B80.1
  have B95 := B80.chg hc (by intro e; rcases e with e | e <;> first | (have q1 := S89.rng e; omega) | (have q1 := S90.rng e; omega))
  clear q0
  have q0 := B81.1
  have B96 := B81.chg hc (by intro e; rcases e with e | e <;> first | (have q1 := S89.rng e; omega) | (have q1 := S90.rng e; omega))
  clear q0
  have q0 := B82.1
  have B97 := B82.chg hc (by intro e; rcases e with e | e <;> first | (have q1 := S89.rng e; omega) | (have q1 := S90.rng e; omega))
  clear q0
  have q0 := B83.1
  have B98 := B83.chg hc (by intro e; rcases e with e | e <;> first | (have q1 := S89.rng e; omega) | (have q1 := S90.rng e; omega))
  clear q0
  have q0 := B84.1
  have B99 := B84.chg hc (by intro e; rcases e with e | e <;> first | (have q1 := S89.rng e; omega) | (have q1 := S90.rng e; omega))
  clear q0
  have S100 := S85.chgS hc (by intro k hk e; rcases e with e | e <;> first | (have q1 := S89.rng e; have q2 := S85.rng hk; omega) | (have q1 := S90.rng e; have q2 := S85.rng hk; omega))
  have S101 := S86.chgS hc (by intro k hk e; rcases e with e | e <;> first | (have q1 := S89.rng e; have q2 := S86.rng hk; omega) | (have q1 := S90.rng e; have q2 := S86.rng hk; omega))
  have S102 := S87.chgS hc (by intro k hk e; rcases e with e | e <;> first | (have q1 := S89.rng e; have q2 := S87.rng hk; omega) | (have q1 := S90.rng e; have q2 := S87.rng hk; omega))
  have S103 := S88.chgS hc (by intro k hk e; rcases e with e | e <;> first | (have q1 := S89.rng e; have q2 := S88.rng hk; omega) | (have q1 := S90.rng e; have q2 := S88.rng hk; omega))
  have hB : Below w.heap.size w V91 := hB.trans (hc.below (by intro k e; rcases e with e | e <;> first | (have q1 := S89.rng e; omega) | (have q1 := S90.rng e; omega)) hB.size)
  clear B80 B81 B82 B83 B84 S85 S86 S87 S88 S89 S90 hc
  have B99_0 := B99.2.1 0 _ rfl
  have B99_1 := B99.2.1 1 _ rfl
  have B99_2 := B99.2.1 2 _ rfl
  have B99_3 := B99.2.1 3 _ rfl
  go_wp2_with fail
  refine (heldRatio_any _ _ _ _ _ _ _ _ RX.length RY.length 1 _ ?_ ?_ (by omega) (by omega)).mono ?_
  · exact S92.ints
  · exact S93.ints
  rintro e V106 ⟨rfl, hb⟩
  clear B99_0 B99_1 B99_2 B99_3
  have hz107 := hb.size
  have B108 := B95.below hb
  have B109 := B96.below hb
  have B110 := B97.below hb
  have B111 := B98.below hb
  have B112 := B99.below hb
  have S113 := S100.belowS hb
  have S114 := S101.belowS hb
  have S115 := S102.belowS hb
  have S116 := S103.belowS hb
  have S117 := S92.belowS hb
  have S118 := S93.belowS hb
  have hB : Below w.heap.size w V106 := hB.trans (hb.mono hB.size)
  clear B95 B96 B97 B98 B99 S100 S101 S102 S103 S92 S93 hb
  try go_upto_region 24 with fail
  go_cut [14, 15] (fun s14 s15 wx => ∃ (bx : Nat) (a : Option Addr) (l c : Nat) (b : Option Addr) (m d lo hi : Nat), s14 = .pointer (some ⟨bx, 0, none⟩) ∧ s15 = .bool ok ∧ Box wx bx [.bool rn, .slice a l c, .bool rm, .slice b m d] ∧ Seg wx lo hi (.slice a l c) RX ∧ Seg wx lo hi (.slice b m d) RY ∧ (∀ k, (Value.slice a l c).ownBlock = some k → (Value.slice b m d).ownBlock ≠ some k) ∧ V106.heap.size ≤ lo ∧ hi ≤ wx.heap.size ∧ V106.heap.size ≤ bx ∧ (bx < lo ∨ hi ≤ bx) ∧ Below V106.heap.size V106 wx)
  case first =>
    go_region_held3 (fun w' => Below V106.heap.size V106 w' ∧ w'.cell? ⟨w.heap.size, 0, none⟩ = some (.int .i64 a) ∧ w'.cell? ⟨w.heap.size, 1, none⟩ = some (.int .i64 b) ∧ w'.cell? ⟨w.heap.size + 1, 0, none⟩ = some (.bool n0) ∧ w'.cell? ⟨w.heap.size + 1, 1, none⟩ = some (.slice a0 l0 c0) ∧ w'.cell? ⟨w.heap.size + 1, 2, none⟩ = some (.bool m0) ∧ w'.cell? ⟨w.heap.size + 1, 3, none⟩ = some (.slice b0 p0 q0)) ((refine (fun hbK => And.intro hbK (by exact ⟨(hbK.cell (p := ⟨w.heap.size, 0, none⟩) (B108).1).trans (B108.2.1 0 _ rfl), (hbK.cell (p := ⟨w.heap.size, 1, none⟩) (B108).1).trans (B108.2.1 1 _ rfl), (hbK.cell (p := ⟨w.heap.size + 1, 0, none⟩) (B109).1).trans (B109.2.1 0 _ rfl), (hbK.cell (p := ⟨w.heap.size + 1, 1, none⟩) (B109).1).trans (B109.2.1 1 _ rfl), (hbK.cell (p := ⟨w.heap.size + 1, 2, none⟩) (B109).1).trans (B109.2.1 2 _ rfl), (hbK.cell (p := ⟨w.heap.size + 1, 3, none⟩) (B109).1).trans (B109.2.1 3 _ rfl)⟩)) ?_; repeat' (first | (with_reducible exact Below.refl _ _) | (with_reducible assumption) | (with_reducible refine Below.alloc ?_ ?_ _) | (with_reducible refine Below.setCell ?_ ?_ _) | (with_reducible refine Below.drew ?_) | (with_reducible refine below_drewN ?_ _) | (apply bthen2; (with_reducible assumption)) | go_size))) ((first | (go_at_call 20; refine (toCurve_any a b _).mono ?_; rintro e ua ⟨rfl, hba⟩; have hza := hba.size; (try simp only [World.size_alloc, World.size_setCell, World.size_drew, World.heap_drewN] at hza); try (have qB := Box.below (by first | exact box_made2 _ _ _ _ | exact box_made4 _ _ _ _ _ _ | (with_reducible assumption)) hba; (try simp only [World.size_drew, World.heap_drewN] at qB); have qB0 := qB.2.1 0 _ rfl; have qB1 := qB.2.1 1 _ rfl; (try have qB2 := qB.2.1 2 _ rfl); (try have qB3 := qB.2.1 3 _ rfl); have qBf := qB.2.2)) | (go_at_call 32; refine (HT1.out _ ?_ ?_).mono ?_; (focus (first | (refine Ints.below hx0 ?_; (repeat' (first | (with_reducible exact Below.refl _ _) | (with_reducible assumption) | (with_reducible refine Below.alloc ?_ ?_ _) | (with_reducible refine Below.setCell ?_ ?_ _) | (with_reducible refine Below.drew ?_) | (with_reducible refine below_drewN ?_ _) | (apply bthen2; (with_reducible assumption)) | go_size)); done) | (refine Ints.below hy0 ?_; (repeat' (first | (with_reducible exact Below.refl _ _) | (with_reducible assumption) | (with_reducible refine Below.alloc ?_ ?_ _) | (with_reducible refine Below.setCell ?_ ?_ _) | (with_reducible refine Below.drew ?_) | (with_reducible refine below_drewN ?_ _) | (apply bthen2; (with_reducible assumption)) | go_size)); done))); (focus (first | (refine Ints.below hx0 ?_; (repeat' (first | (with_reducible exact Below.refl _ _) | (with_reducible assumption) | (with_reducible refine Below.alloc ?_ ?_ _) | (with_reducible refine Below.setCell ?_ ?_ _) | (with_reducible refine Below.drew ?_) | (with_reducible refine below_drewN ?_ _) | (apply bthen2; (with_reducible assumption)) | go_size)); done) | (refine Ints.below hy0 ?_; (repeat' (first | (with_reducible exact Below.refl _ _) | (with_reducible assumption) | (with_reducible refine Below.alloc ?_ ?_ _) | (with_reducible refine Below.setCell ?_ ?_ _) | (with_reducible refine Below.drew ?_) | (with_reducible refine below_drewN ?_ _) | (apply bthen2; (with_reducible assumption)) | go_size)); done))); rintro e ub ⟨tab, tlb, tcb, tbb, tmb, tdb, rfl, Tb, hbb⟩; obtain ⟨ib, jb⟩ := Tb.ints; obtain ⟨lob, hib, sgb, shb, hdb, hlb, hhb⟩ := Tb.segT hbb; (try simp only [World.size_alloc, World.size_setCell, World.size_drew, World.heap_drewN] at hlb); have hzb := hbb.size; (try simp only [World.size_alloc, World.size_setCell, World.size_drew, World.heap_drewN] at hzb); try (have qB := Box.below (by first | exact box_made2 _ _ _ _ | exact box_made4 _ _ _ _ _ _ | (with_reducible assumption)) hbb; (try simp only [World.size_drew, World.heap_drewN] at qB); have qB0 := qB.2.1 0 _ rfl; have qB1 := qB.2.1 1 _ rfl; (try have qB2 := qB.2.1 2 _ rfl); (try have qB3 := qB.2.1 3 _ rfl); have qBf := qB.2.2)) | (go_at_call 45; refine (HI.out _ _ _ _ _ _  _ ?_ ?_ ).mono ?_; (focus (first | (refine Ints.below ib ?_; (repeat' (first | (with_reducible exact Below.refl _ _) | (with_reducible assumption) | (with_reducible refine Below.alloc ?_ ?_ _) | (with_reducible refine Below.setCell ?_ ?_ _) | (with_reducible refine Below.drew ?_) | (with_reducible refine below_drewN ?_ _) | (apply bthen2; (with_reducible assumption)) | go_size)); done))); (focus (first | (refine Ints.below jb ?_; (repeat' (first | (with_reducible exact Below.refl _ _) | (with_reducible assumption) | (with_reducible refine Below.alloc ?_ ?_ _) | (with_reducible refine Below.setCell ?_ ?_ _) | (with_reducible refine Below.drew ?_) | (with_reducible refine below_drewN ?_ _) | (apply bthen2; (with_reducible assumption)) | go_size)); done))); rintro e uz ⟨raz, rlz, rcz, rbz, rmz, rdz, rfl, Tz, hbz⟩; obtain ⟨loz, hiz, sgz, shz, hdz, hlz, hhz⟩ := Tz.segT hbz; (try simp only [World.size_alloc, World.size_setCell, World.size_drew, World.heap_drewN] at hlz); have hzz := hbz.size; (try simp only [World.size_alloc, World.size_setCell, World.size_drew, World.heap_drewN] at hzz); try (have qB := Box.below (by first | exact box_made2 _ _ _ _ | exact box_made4 _ _ _ _ _ _ | (with_reducible assumption)) hbz; (try simp only [World.size_drew, World.heap_drewN] at qB); have qB0 := qB.2.1 0 _ rfl; have qB1 := qB.2.1 1 _ rfl; (try have qB2 := qB.2.1 2 _ rfl); (try have qB3 := qB.2.1 3 _ rfl); have qBf := qB.2.2))))
    all_goals (go_wp2_with fail; go_meet; exact ⟨_, raz, rlz, rcz, rbz, rmz, rdz, loz, hiz, rfl, rfl, (by first | (with_reducible exact box_made4 _ _ _ _ _ _) | (exact Box.set (Box.set (Box.set (Box.set (vs := [_, _, _, _]) (by first | assumption | exact box_made4 _ _ _ _ _ _) 0 (by simp) _) 1 (by simp) _) 2 (by simp) _) 3 (by simp) _)), (by (repeat' (first | (with_reducible assumption) | (with_reducible refine Seg.set ?_ ?_ _) | (with_reducible refine Seg.alloc ?_ _) | (with_reducible refine Seg.drew ?_))); all_goals (first | omega | (simp; done) | (simp; omega))), (by (repeat' (first | (with_reducible assumption) | (with_reducible refine Seg.set ?_ ?_ _) | (with_reducible refine Seg.alloc ?_ _) | (with_reducible refine Seg.drew ?_))); all_goals (first | omega | (simp; done) | (simp; omega))), hdz, (by first | omega | (simp; done) | (simp; omega)), (by first | omega | (simp; done) | (simp; omega)), (by first | omega | (simp; done) | (simp; omega)), (by first | omega | (simp; done) | (simp; omega)), (by repeat' (first | (with_reducible exact Below.refl _ _) | (with_reducible assumption) | (with_reducible refine Below.alloc ?_ ?_ _) | (with_reducible refine Below.setCell ?_ ?_ _) | (with_reducible refine Below.drew ?_) | (with_reducible refine below_drewN ?_ _) | (apply bthen2; (with_reducible assumption)) | go_size))⟩)
  case rest =>
  obtain ⟨bx120, a120_, l120_, c120_, b120_, m120_, d120_, lo120, hi120, rfl, rfl, B120, S120, R120, D120, o120a, o120b, o120c, o120d, hb⟩ := hcut
  obtain ⟨V119, hV⟩ : ∃ x, x = wc := ⟨_, rfl⟩
  subst hV
  have hu120 := B120.1
  have hz121 := hb.size
  have B122 := B108.below hb
  have B123 := B109.below hb
  have B124 := B110.below hb
  have B125 := B111.below hb
  have B126 := B112.below hb
  have S127 := S113.belowS hb
  have S128 := S114.belowS hb
  have S129 := S115.belowS hb
  have S130 := S116.belowS hb
  have S131 := S117.belowS hb
  have S132 := S118.belowS hb
  have hB : Below w.heap.size w V119 := hB.trans (hb.mono hB.size)
  clear B108 B109 B110 B111 B112 S113 S114 S115 S116 S117 S118 hb
  have B120_0 := B120.2.1 0 _ rfl
  have B120_1 := B120.2.1 1 _ rfl
  have B120_2 := B120.2.1 2 _ rfl
  have B120_3 := B120.2.1 3 _ rfl
  have B124_0 := B124.2.1 0 _ rfl
  have B124_1 := B124.2.1 1 _ rfl
  have B124_2 := B124.2.1 2 _ rfl
  have B124_3 := B124.2.1 3 _ rfl
  go_wp2_with fail
  refine (eqRatio_same _ _ _ _ _ _ _ _ _ _ _ _ _ _ RX RY _ ?_ ?_ ?_ ?_).mono ?_
  · exact S120.ints
  · exact R120.ints
  · exact S127.ints
  · exact S128.ints
  rintro e V133 ⟨rfl, hb⟩
  clear B120_0 B120_1 B120_2 B120_3 B124_0 B124_1 B124_2 B124_3
  have hz134 := hb.size
  have B135 := B122.below hb
  have B136 := B123.below hb
  have B137 := B124.below hb
  have B138 := B125.below hb
  have B139 := B126.below hb
  have B140 := B120.below hb
  have S141 := S127.belowS hb
  have S142 := S128.belowS hb
  have S143 := S129.belowS hb
  have S144 := S130.belowS hb
  have S145 := S131.belowS hb
  have S146 := S132.belowS hb
  have S147 := S120.belowS hb
  have S148 := R120.belowS hb
  have hB : Below w.heap.size w V133 := hB.trans (hb.mono hB.size)
  clear B122 B123 B124 B125 B126 B120 S127 S128 S129 S130 S131 S132 S120 R120 hb
  have B139_0 := B139.2.1 0 _ rfl
  have B139_1 := B139.2.1 1 _ rfl
  have B139_2 := B139.2.1 2 _ rfl
  have B139_3 := B139.2.1 3 _ rfl
  go_wp2_with fail
  refine (heldRatio_any _ _ _ _ _ _ _ _ RX.length RY.length 1 _ ?_ ?_ (by omega) (by omega)).mono ?_
  · exact S145.ints
  · exact S146.ints
  rintro e V149 ⟨rfl, hb⟩
  clear B139_0 B139_1 B139_2 B139_3
  have hz150 := hb.size
  have B151 := B135.below hb
  have B152 := B136.below hb
  have B153 := B137.below hb
  have B154 := B138.below hb
  have B155 := B139.below hb
  have B156 := B140.below hb
  have S157 := S141.belowS hb
  have S158 := S142.belowS hb
  have S159 := S143.belowS hb
  have S160 := S144.belowS hb
  have S161 := S145.belowS hb
  have S162 := S146.belowS hb
  have S163 := S147.belowS hb
  have S164 := S148.belowS hb
  have hB : Below w.heap.size w V149 := hB.trans (hb.mono hB.size)
  clear B135 B136 B137 B138 B139 B140 S141 S142 S143 S144 S145 S146 S147 S148 hb
  go_wp2_with fail
  go_ret
  exact gives rfl hB

end Go.Proofs.Ytopdeoicglkbkaa
