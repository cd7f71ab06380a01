import Derived.Test.YtopdeoicglkbkaaNB2
import Derived.Test.YtopdeoicglkbkaaBox
set_option linter.unusedSimpArgs false
set_option linter.unusedVariables false
namespace Go.Proofs.Ytopdeoicglkbkaa
open Go.RowKit

set_option maxRecDepth 100000 in
set_option maxHeartbeats 4000000 in
theorem walk_FnExactNumeratorBefore (a b : Int) (n0 : Bool) (a0 : Option Addr) (l0 c0 : Nat) (x0 : List Int) (m0 : Bool) (b0 : Option Addr) (p0 q0 : Nat) (y0 : List Int) (w : World) (_w_a : (Lit.int .i64 a).wf = true) (_w_b : (Lit.int .i64 b).wf = true) (hx0 : Ints w (.slice a0 l0 c0) x0) (hy0 : Ints w (.slice b0 p0 q0) y0) : Calls Try.prog 9 #[.agg #[.int .i64 a, .int .i64 b], .agg #[.bool n0, .slice a0 l0 c0, .bool m0, .slice b0 p0 q0]] w (Gives (.bool true) w) := by
  obtain ⟨L0, hL0⟩ : ∃ L, szR x0 y0 1048576 = L := ⟨_, rfl⟩
  have HZ0 := Lib.hid (fun W h h2 => szRatio_any n0 m0 a0 b0 l0 c0 p0 q0 x0 y0 1048576 (by decide) (by decide) W h h2)
  rw [hL0] at HZ0
  by_cases g0 : L0 < 0
  · clear hL0
    go_enter Try.func9, Try.ntmps9
    go_upto_region 2 with fail
    refine name_world (fun V0 hV0 => ?_)
    have B1 : Box V0 (w.heap.size) [.int .i64 a, .int .i64 b] := by subst hV0; exact box_two (by first | (simp; done) | (simp; omega)) (by simp [go_sem]) (by simp [go_sem]) (fun o => by simp [go_sem])
    have B2 : Box V0 (w.heap.size + 1) [.bool n0, .slice a0 l0 c0, .bool m0, .slice b0 p0 q0] := by subst hV0; exact box_four (by first | (simp; done) | (simp; omega)) (by simp [go_sem]) (by simp [go_sem]) (by simp [go_sem]) (by simp [go_sem]) (fun o => by simp [go_sem])
    have hB : Below w.heap.size w V0 := by subst hV0; exact (by repeat' (first | (with_reducible exact Below.refl _ _) | (with_reducible assumption) | (with_reducible refine Below.alloc ?_ ?_ _) | (with_reducible refine Below.setCell ?_ ?_ _) | (with_reducible refine Below.drew ?_) | (with_reducible refine below_drewN ?_ _) | (apply bthen2; (with_reducible assumption)) | go_size))
    have hV1 : V0.heap.size ≤ w.heap.size + 1 + 1 ∧ w.heap.size + 1 + 1 ≤ V0.heap.size := by subst hV0; simp
    clear hV0
    have B2_0 := B2.2.1 0 _ rfl
    have B2_1 := B2.2.1 1 _ rfl
    have B2_2 := B2.2.1 2 _ rfl
    have B2_3 := B2.2.1 3 _ rfl
    go_wp2_with fail
    refine (HZ0.out _ ?_ ?_).mono ?_
    · exact Ints.below hx0 hB
    · exact Ints.below hy0 hB
    rintro e V3 ⟨rfl, hb⟩
    clear B2_0 B2_1 B2_2 B2_3
    have hz4 := hb.size
    have B5 := B1.below hb
    have B6 := B2.below hb
    have hB : Below w.heap.size w V3 := hB.trans (hb.mono hB.size)
    clear B1 B2 hb
    go_wp2
    go_ret
    exact gives rfl hB
  have hq0 := szR_ok (xs := x0) (ys := y0) (left := 1048576) (by decide) (by decide) (by rw [hL0]; exact g0)
  rw [hL0] at hq0
  have HT1 := Lib.hid (fun W h h2 => toRatio_two n0 m0 a0 b0 l0 c0 p0 q0 x0 y0 W h h2 hq0.2.1 hq0.2.2)
  have HS := Lib.hid (fun p0 q0 r0 p1 q1 r1 W h0 h1 => sNumeratorBefore_any a b n0 m0 p0 p1 q0 q1 r0 r1 x0 y0 W h0 h1)
  have HI := Lib.hid (fun p0 q0 r0 p1 q1 r1 W h0 h1 => NumeratorBefore_any a b n0 m0 p0 p1 q0 q1 r0 r1 x0 y0 W h0 h1)
  have hG := nb_len numP a b n0 m0 x0 y0
  obtain ⟨ok, rn, RX, hR⟩ : ∃ ok rn RX, nbV numP a b n0 x0 m0 y0 = (ok, rn, RX) := ⟨_, _, _, rfl⟩
  rw [hR] at HS HI hG
  dsimp only at HS HI hG
  clear hR
  obtain ⟨hn0, hm0⟩ := hq0.2
  clear hL0 hq0
  go_enter Try.func9, Try.ntmps9
  go_upto_region 2 with fail
  refine name_world (fun V0 hV0 => ?_)
  have B7 : Box V0 (w.heap.size) [.int .i64 a, .int .i64 b] := by subst hV0; exact box_two (by first | (simp; done) | (simp; omega)) (by simp [go_sem]) (by simp [go_sem]) (fun o => by simp [go_sem])
  have B8 : Box V0 (w.heap.size + 1) [.bool n0, .slice a0 l0 c0, .bool m0, .slice b0 p0 q0] := by subst hV0; exact box_four (by first | (simp; done) | (simp; omega)) (by simp [go_sem]) (by simp [go_sem]) (by simp [go_sem]) (by simp [go_sem]) (fun o => by simp [go_sem])
  have hB : Below w.heap.size w V0 := by subst hV0; exact (by repeat' (first | (with_reducible exact Below.refl _ _) | (with_reducible assumption) | (with_reducible refine Below.alloc ?_ ?_ _) | (with_reducible refine Below.setCell ?_ ?_ _) | (with_reducible refine Below.drew ?_) | (with_reducible refine below_drewN ?_ _) | (apply bthen2; (with_reducible assumption)) | go_size))
  have hV1 : V0.heap.size ≤ w.heap.size + 1 + 1 ∧ w.heap.size + 1 + 1 ≤ V0.heap.size := by subst hV0; simp
  clear hV0
  have B8_0 := B8.2.1 0 _ rfl
  have B8_1 := B8.2.1 1 _ rfl
  have B8_2 := B8.2.1 2 _ rfl
  have B8_3 := B8.2.1 3 _ rfl
  go_wp2_with fail
  refine (HZ0.out _ ?_ ?_).mono ?_
  · exact Ints.below hx0 hB
  · exact Ints.below hy0 hB
  rintro e V9 ⟨rfl, hb⟩
  clear B8_0 B8_1 B8_2 B8_3
  have hz10 := hb.size
  have B11 := B7.below hb
  have B12 := B8.below hb
  have hB : Below w.heap.size w V9 := hB.trans (hb.mono hB.size)
  clear B7 B8 hb
  try go_upto_region 5 with fail
  go_cut [6, 7] (fun s6 s7 wx => ∃ (bx : Nat) (a : Option Addr) (l c lo hi : Nat), s6 = .pointer (some ⟨bx, 0, none⟩) ∧ s7 = .bool ok ∧ Box wx bx [.bool rn, .slice a l c] ∧ Seg wx lo hi (.slice a l c) RX ∧ V9.heap.size ≤ lo ∧ hi ≤ wx.heap.size ∧ V9.heap.size ≤ bx ∧ (bx < lo ∨ hi ≤ bx) ∧ Below V9.heap.size V9 wx)
  case first =>
    go_region_held3 (fun w' => Below V9.heap.size V9 w' ∧ w'.cell? ⟨w.heap.size, 0, none⟩ = some (.int .i64 a) ∧ w'.cell? ⟨w.heap.size, 1, none⟩ = some (.int .i64 b) ∧ w'.cell? ⟨w.heap.size + 1, 0, none⟩ = some (.bool n0) ∧ w'.cell? ⟨w.heap.size + 1, 1, none⟩ = some (.slice a0 l0 c0) ∧ w'.cell? ⟨w.heap.size + 1, 2, none⟩ = some (.bool m0) ∧ w'.cell? ⟨w.heap.size + 1, 3, none⟩ = some (.slice b0 p0 q0)) ((refine (fun hbK => And.intro hbK (by exact ⟨(hbK.cell (p := ⟨w.heap.size, 0, none⟩) (B11).1).trans (B11.2.1 0 _ rfl), (hbK.cell (p := ⟨w.heap.size, 1, none⟩) (B11).1).trans (B11.2.1 1 _ rfl), (hbK.cell (p := ⟨w.heap.size + 1, 0, none⟩) (B12).1).trans (B12.2.1 0 _ rfl), (hbK.cell (p := ⟨w.heap.size + 1, 1, none⟩) (B12).1).trans (B12.2.1 1 _ rfl), (hbK.cell (p := ⟨w.heap.size + 1, 2, none⟩) (B12).1).trans (B12.2.1 2 _ rfl), (hbK.cell (p := ⟨w.heap.size + 1, 3, none⟩) (B12).1).trans (B12.2.1 3 _ rfl)⟩)) ?_; repeat' (first | (with_reducible exact Below.refl _ _) | (with_reducible assumption) | (with_reducible refine Below.alloc ?_ ?_ _) | (with_reducible refine Below.setCell ?_ ?_ _) | (with_reducible refine Below.drew ?_) | (with_reducible refine below_drewN ?_ _) | (apply bthen2; (with_reducible assumption)) | go_size))) ((first | (go_at_call 20; refine (toCurve_any a b _).mono ?_; rintro e ua ⟨rfl, hba⟩; have hza := hba.size; (try simp only [World.size_alloc, World.size_setCell, World.size_drew, World.heap_drewN] at hza); try (have qB := Box.below (by first | exact box_made2 _ _ _ _ | exact box_made4 _ _ _ _ _ _ | (with_reducible assumption)) hba; (try simp only [World.size_drew, World.heap_drewN] at qB); have qB0 := qB.2.1 0 _ rfl; have qB1 := qB.2.1 1 _ rfl; (try have qB2 := qB.2.1 2 _ rfl); (try have qB3 := qB.2.1 3 _ rfl); have qBf := qB.2.2)) | (go_at_call 32; refine (HT1.out _ ?_ ?_).mono ?_; (focus (first | (refine Ints.below hx0 ?_; (repeat' (first | (with_reducible exact Below.refl _ _) | (with_reducible assumption) | (with_reducible refine Below.alloc ?_ ?_ _) | (with_reducible refine Below.setCell ?_ ?_ _) | (with_reducible refine Below.drew ?_) | (with_reducible refine below_drewN ?_ _) | (apply bthen2; (with_reducible assumption)) | go_size)); done) | (refine Ints.below hy0 ?_; (repeat' (first | (with_reducible exact Below.refl _ _) | (with_reducible assumption) | (with_reducible refine Below.alloc ?_ ?_ _) | (with_reducible refine Below.setCell ?_ ?_ _) | (with_reducible refine Below.drew ?_) | (with_reducible refine below_drewN ?_ _) | (apply bthen2; (with_reducible assumption)) | go_size)); done))); (focus (first | (refine Ints.below hx0 ?_; (repeat' (first | (with_reducible exact Below.refl _ _) | (with_reducible assumption) | (with_reducible refine Below.alloc ?_ ?_ _) | (with_reducible refine Below.setCell ?_ ?_ _) | (with_reducible refine Below.drew ?_) | (with_reducible refine below_drewN ?_ _) | (apply bthen2; (with_reducible assumption)) | go_size)); done) | (refine Ints.below hy0 ?_; (repeat' (first | (with_reducible exact Below.refl _ _) | (with_reducible assumption) | (with_reducible refine Below.alloc ?_ ?_ _) | (with_reducible refine Below.setCell ?_ ?_ _) | (with_reducible refine Below.drew ?_) | (with_reducible refine below_drewN ?_ _) | (apply bthen2; (with_reducible assumption)) | go_size)); done))); rintro e ub ⟨tab, tlb, tcb, tbb, tmb, tdb, rfl, Tb, hbb⟩; obtain ⟨ib, jb⟩ := Tb.ints; obtain ⟨lob, hib, sgb, shb, hdb, hlb, hhb⟩ := Tb.segT hbb; (try simp only [World.size_alloc, World.size_setCell, World.size_drew, World.heap_drewN] at hlb); have hzb := hbb.size; (try simp only [World.size_alloc, World.size_setCell, World.size_drew, World.heap_drewN] at hzb); try (have qB := Box.below (by first | exact box_made2 _ _ _ _ | exact box_made4 _ _ _ _ _ _ | (with_reducible assumption)) hbb; (try simp only [World.size_drew, World.heap_drewN] at qB); have qB0 := qB.2.1 0 _ rfl; have qB1 := qB.2.1 1 _ rfl; (try have qB2 := qB.2.1 2 _ rfl); (try have qB3 := qB.2.1 3 _ rfl); have qBf := qB.2.2)) | (go_at_call 38; refine (HS.out _ _ _ _ _ _  _ ?_ ?_ ).mono ?_; (focus (first | (refine Ints.below ib ?_; (repeat' (first | (with_reducible exact Below.refl _ _) | (with_reducible assumption) | (with_reducible refine Below.alloc ?_ ?_ _) | (with_reducible refine Below.setCell ?_ ?_ _) | (with_reducible refine Below.drew ?_) | (with_reducible refine below_drewN ?_ _) | (apply bthen2; (with_reducible assumption)) | go_size)); done))); (focus (first | (refine Ints.below jb ?_; (repeat' (first | (with_reducible exact Below.refl _ _) | (with_reducible assumption) | (with_reducible refine Below.alloc ?_ ?_ _) | (with_reducible refine Below.setCell ?_ ?_ _) | (with_reducible refine Below.drew ?_) | (with_reducible refine below_drewN ?_ _) | (apply bthen2; (with_reducible assumption)) | go_size)); done))); rintro e uz ⟨raz, rlz, rcz, rfl, hoz, hbz⟩; obtain ⟨loz, hiz, sgz, hlz, hhz⟩ := Own.segL hoz; (try simp only [World.size_alloc, World.size_setCell, World.size_drew, World.heap_drewN] at hlz); have hzz := hbz.size; (try simp only [World.size_alloc, World.size_setCell, World.size_drew, World.heap_drewN] at hzz); try (have qB := Box.below (by first | exact box_made2 _ _ _ _ | exact box_made4 _ _ _ _ _ _ | (with_reducible assumption)) hbz; (try simp only [World.size_drew, World.heap_drewN] at qB); have qB0 := qB.2.1 0 _ rfl; have qB1 := qB.2.1 1 _ rfl; (try have qB2 := qB.2.1 2 _ rfl); (try have qB3 := qB.2.1 3 _ rfl); have qBf := qB.2.2))))
    all_goals (go_wp2_with fail; go_meet; exact ⟨_, raz, rlz, rcz, loz, hiz, rfl, rfl, (by first | (with_reducible exact box_made2 _ _ _ _) | (exact Box.set (Box.set (vs := [_, _]) (by first | assumption | exact box_made2 _ _ _ _) 0 (by simp) _) 1 (by simp) _)), (by (repeat' (first | (with_reducible assumption) | (with_reducible refine Seg.set ?_ ?_ _) | (with_reducible refine Seg.alloc ?_ _) | (with_reducible refine Seg.drew ?_))); all_goals (first | omega | (simp; done) | (simp; omega))), (by first | omega | (simp; done) | (simp; omega)), (by first | omega | (simp; done) | (simp; omega)), (by first | omega | (simp; done) | (simp; omega)), (by first | omega | (simp; done) | (simp; omega)), (by repeat' (first | (with_reducible exact Below.refl _ _) | (with_reducible assumption) | (with_reducible refine Below.alloc ?_ ?_ _) | (with_reducible refine Below.setCell ?_ ?_ _) | (with_reducible refine Below.drew ?_) | (with_reducible refine below_drewN ?_ _) | (apply bthen2; (with_reducible assumption)) | go_size))⟩)
  case rest =>
  obtain ⟨bx14, a14_, l14_, c14_, lo14, hi14, rfl, rfl, B14, S14, o14a, o14b, o14c, o14d, hb⟩ := hcut
  obtain ⟨V13, hV⟩ : ∃ x, x = wc := ⟨_, rfl⟩
  subst hV
  have hu14 := B14.1
  have hz15 := hb.size
  have B16 := B11.below hb
  have B17 := B12.below hb
  have hB : Below w.heap.size w V13 := hB.trans (hb.mono hB.size)
  clear B11 B12 hb
  try go_upto_region 6 with fail
  go_cut [8] (fun s8 wx => ∃ (bx : Nat) (a : Option Addr) (l c : Nat) (b : Option Addr) (m d lo hi : Nat), s8 = .pointer (some ⟨bx, 0, none⟩) ∧ Box wx bx [.bool n0, .slice a l c, .bool m0, .slice b m d] ∧ Seg wx lo hi (.slice a l c) x0 ∧ Seg wx lo hi (.slice b m d) y0 ∧ (∀ k, (Value.slice a l c).ownBlock = some k → (Value.slice b m d).ownBlock ≠ some k) ∧ V13.heap.size ≤ lo ∧ hi ≤ wx.heap.size ∧ V13.heap.size ≤ bx ∧ (bx < lo ∨ hi ≤ bx) ∧ Below V13.heap.size V13 wx)
  case first =>
    have B17_0 := B17.2.1 0 _ rfl
    have B17_1 := B17.2.1 1 _ rfl
    have B17_2 := B17.2.1 2 _ rfl
    have B17_3 := B17.2.1 3 _ rfl
    go_wp2_with (first | (go_at_call 32; refine (HT1.out _ ?_ ?_).mono ?_; (focus (first | (refine Ints.below hx0 ?_; (repeat' (first | (with_reducible exact Below.refl _ _) | (with_reducible assumption) | (with_reducible refine Below.alloc ?_ ?_ _) | (with_reducible refine Below.setCell ?_ ?_ _) | (with_reducible refine Below.drew ?_) | (with_reducible refine below_drewN ?_ _) | (apply bthen2; (with_reducible assumption)) | go_size)); done) | (refine Ints.below hy0 ?_; (repeat' (first | (with_reducible exact Below.refl _ _) | (with_reducible assumption) | (with_reducible refine Below.alloc ?_ ?_ _) | (with_reducible refine Below.setCell ?_ ?_ _) | (with_reducible refine Below.drew ?_) | (with_reducible refine below_drewN ?_ _) | (apply bthen2; (with_reducible assumption)) | go_size)); done))); (focus (first | (refine Ints.below hx0 ?_; (repeat' (first | (with_reducible exact Below.refl _ _) | (with_reducible assumption) | (with_reducible refine Below.alloc ?_ ?_ _) | (with_reducible refine Below.setCell ?_ ?_ _) | (with_reducible refine Below.drew ?_) | (with_reducible refine below_drewN ?_ _) | (apply bthen2; (with_reducible assumption)) | go_size)); done) | (refine Ints.below hy0 ?_; (repeat' (first | (with_reducible exact Below.refl _ _) | (with_reducible assumption) | (with_reducible refine Below.alloc ?_ ?_ _) | (with_reducible refine Below.setCell ?_ ?_ _) | (with_reducible refine Below.drew ?_) | (with_reducible refine below_drewN ?_ _) | (apply bthen2; (with_reducible assumption)) | go_size)); done))); rintro e uz ⟨taz, tlz, tcz, tbz, tmz, tdz, rfl, Tz, hbz⟩; obtain ⟨iz, jz⟩ := Tz.ints; obtain ⟨loz, hiz, sgz, shz, hdz, hlz, hhz⟩ := Tz.segT hbz; (try simp only [World.size_alloc, World.size_setCell, World.size_drew, World.heap_drewN] at hlz); have hzz := hbz.size; (try simp only [World.size_alloc, World.size_setCell, World.size_drew, World.heap_drewN] at hzz); try (have qB := Box.below (by first | exact box_made2 _ _ _ _ | exact box_made4 _ _ _ _ _ _ | (with_reducible assumption)) hbz; (try simp only [World.size_drew, World.heap_drewN] at qB); have qB0 := qB.2.1 0 _ rfl; have qB1 := qB.2.1 1 _ rfl; (try have qB2 := qB.2.1 2 _ rfl); (try have qB3 := qB.2.1 3 _ rfl); have qBf := qB.2.2); try (have qB := Box.below (by first | exact box_made2 _ _ _ _ | exact box_made4 _ _ _ _ _ _ | (with_reducible assumption)) hbz; (try simp only [World.size_drew, World.heap_drewN] at qB); have qB0 := qB.2.1 0 _ rfl; have qB1 := qB.2.1 1 _ rfl; (try have qB2 := qB.2.1 2 _ rfl); (try have qB3 := qB.2.1 3 _ rfl); have qBf := qB.2.2)))
    all_goals (go_wp2_with fail; go_meet; exact ⟨_, taz, tlz, tcz, tbz, tmz, tdz, loz, hiz, rfl, (by first | (with_reducible exact box_made4 _ _ _ _ _ _) | (exact Box.set (Box.set (Box.set (Box.set (vs := [_, _, _, _]) (by first | assumption | exact box_made4 _ _ _ _ _ _) 0 (by simp) _) 1 (by simp) _) 2 (by simp) _) 3 (by simp) _)), (by (repeat' (first | (with_reducible assumption) | (with_reducible refine Seg.set ?_ ?_ _) | (with_reducible refine Seg.alloc ?_ _) | (with_reducible refine Seg.drew ?_))); all_goals (first | omega | (simp; done) | (simp; omega))), (by (repeat' (first | (with_reducible assumption) | (with_reducible refine Seg.set ?_ ?_ _) | (with_reducible refine Seg.alloc ?_ _) | (with_reducible refine Seg.drew ?_))); all_goals (first | omega | (simp; done) | (simp; omega))), hdz, (by first | omega | (simp; done) | (simp; omega)), (by first | omega | (simp; done) | (simp; omega)), (by first | omega | (simp; done) | (simp; omega)), (by first | omega | (simp; done) | (simp; omega)), (by repeat' (first | (with_reducible exact Below.refl _ _) | (with_reducible assumption) | (with_reducible refine Below.alloc ?_ ?_ _) | (with_reducible refine Below.setCell ?_ ?_ _) | (with_reducible refine Below.drew ?_) | (with_reducible refine below_drewN ?_ _) | (apply bthen2; (with_reducible assumption)) | go_size))⟩)
  case rest =>
  obtain ⟨bx19, a19_, l19_, c19_, b19_, m19_, d19_, lo19, hi19, rfl, B19, S19, R19, D19, o19a, o19b, o19c, o19d, hb⟩ := hcut
  obtain ⟨V18, hV⟩ : ∃ x, x = wc := ⟨_, rfl⟩
  subst hV
  have hu19 := B19.1
  have hz20 := hb.size
  have B21 := B16.below hb
  have B22 := B17.below hb
  have B23 := B14.below hb
  have S24 := S14.belowS hb
  have hB : Below w.heap.size w V18 := hB.trans (hb.mono hB.size)
  clear B16 B17 B14 S14 hb
  try go_upto_region 7 with fail
  go_cut [9, 10] (fun s9 s10 wx => ∃ (bx : Nat) (a : Option Addr) (l c lo hi : Nat), s9 = .pointer (some ⟨bx, 0, none⟩) ∧ s10 = .bool ok ∧ Box wx bx [.bool rn, .slice a l c] ∧ Seg wx lo hi (.slice a l c) RX ∧ V18.heap.size ≤ lo ∧ hi ≤ wx.heap.size ∧ V18.heap.size ≤ bx ∧ (bx < lo ∨ hi ≤ bx) ∧ Below V18.heap.size V18 wx)
  case first =>
    go_region_held3 (fun w' => Below V18.heap.size V18 w' ∧ w'.cell? ⟨w.heap.size, 0, none⟩ = some (.int .i64 a) ∧ w'.cell? ⟨w.heap.size, 1, none⟩ = some (.int .i64 b) ∧ w'.cell? ⟨bx19, 0, none⟩ = some (.bool n0) ∧ w'.cell? ⟨bx19, 1, none⟩ = some (.slice a19_ l19_ c19_) ∧ w'.cell? ⟨bx19, 2, none⟩ = some (.bool m0) ∧ w'.cell? ⟨bx19, 3, none⟩ = some (.slice b19_ m19_ d19_)) ((refine (fun hbK => And.intro hbK (by exact ⟨(hbK.cell (p := ⟨w.heap.size, 0, none⟩) (B21).1).trans (B21.2.1 0 _ rfl), (hbK.cell (p := ⟨w.heap.size, 1, none⟩) (B21).1).trans (B21.2.1 1 _ rfl), (hbK.cell (p := ⟨bx19, 0, none⟩) (B19).1).trans (B19.2.1 0 _ rfl), (hbK.cell (p := ⟨bx19, 1, none⟩) (B19).1).trans (B19.2.1 1 _ rfl), (hbK.cell (p := ⟨bx19, 2, none⟩) (B19).1).trans (B19.2.1 2 _ rfl), (hbK.cell (p := ⟨bx19, 3, none⟩) (B19).1).trans (B19.2.1 3 _ rfl)⟩)) ?_; repeat' (first | (with_reducible exact Below.refl _ _) | (with_reducible assumption) | (with_reducible refine Below.alloc ?_ ?_ _) | (with_reducible refine Below.setCell ?_ ?_ _) | (with_reducible refine Below.drew ?_) | (with_reducible refine below_drewN ?_ _) | (apply bthen2; (with_reducible assumption)) | go_size))) ((first | (go_at_call 20; refine (toCurve_any a b _).mono ?_; rintro e ua ⟨rfl, hba⟩; have hza := hba.size; (try simp only [World.size_alloc, World.size_setCell, World.size_drew, World.heap_drewN] at hza); try (have qB := Box.below (by first | exact box_made2 _ _ _ _ | exact box_made4 _ _ _ _ _ _ | (with_reducible assumption)) hba; (try simp only [World.size_drew, World.heap_drewN] at qB); have qB0 := qB.2.1 0 _ rfl; have qB1 := qB.2.1 1 _ rfl; (try have qB2 := qB.2.1 2 _ rfl); (try have qB3 := qB.2.1 3 _ rfl); have qBf := qB.2.2)) | (go_at_call 39; refine (HI.out _ _ _ _ _ _  _ ?_ ?_ ).mono ?_; (focus (first | (refine Ints.below S19.ints ?_; (repeat' (first | (with_reducible exact Below.refl _ _) | (with_reducible assumption) | (with_reducible refine Below.alloc ?_ ?_ _) | (with_reducible refine Below.setCell ?_ ?_ _) | (with_reducible refine Below.drew ?_) | (with_reducible refine below_drewN ?_ _) | (apply bthen2; (with_reducible assumption)) | go_size)); done))); (focus (first | (refine Ints.below R19.ints ?_; (repeat' (first | (with_reducible exact Below.refl _ _) | (with_reducible assumption) | (with_reducible refine Below.alloc ?_ ?_ _) | (with_reducible refine Below.setCell ?_ ?_ _) | (with_reducible refine Below.drew ?_) | (with_reducible refine below_drewN ?_ _) | (apply bthen2; (with_reducible assumption)) | go_size)); done))); rintro e uz ⟨raz, rlz, rcz, rfl, hoz, hbz⟩; obtain ⟨loz, hiz, sgz, hlz, hhz⟩ := Own.segL hoz; (try simp only [World.size_alloc, World.size_setCell, World.size_drew, World.heap_drewN] at hlz); have hzz := hbz.size; (try simp only [World.size_alloc, World.size_setCell, World.size_drew, World.heap_drewN] at hzz); try (have qB := Box.below (by first | exact box_made2 _ _ _ _ | exact box_made4 _ _ _ _ _ _ | (with_reducible assumption)) hbz; (try simp only [World.size_drew, World.heap_drewN] at qB); have qB0 := qB.2.1 0 _ rfl; have qB1 := qB.2.1 1 _ rfl; (try have qB2 := qB.2.1 2 _ rfl); (try have qB3 := qB.2.1 3 _ rfl); have qBf := qB.2.2))))
    all_goals (go_wp2_with fail; go_meet; exact ⟨_, raz, rlz, rcz, loz, hiz, rfl, rfl, (by first | (with_reducible exact box_made2 _ _ _ _) | (exact Box.set (Box.set (vs := [_, _]) (by first | assumption | exact box_made2 _ _ _ _) 0 (by simp) _) 1 (by simp) _)), (by (repeat' (first | (with_reducible assumption) | (with_reducible refine Seg.set ?_ ?_ _) | (with_reducible refine Seg.alloc ?_ _) | (with_reducible refine Seg.drew ?_))); all_goals (first | omega | (simp; done) | (simp; omega))), (by first | omega | (simp; done) | (simp; omega)), (by first | omega | (simp; done) | (simp; omega)), (by first | omega | (simp; done) | (simp; omega)), (by first | omega | (simp; done) | (simp; omega)), (by repeat' (first | (with_reducible exact Below.refl _ _) | (with_reducible assumption) | (with_reducible refine Below.alloc ?_ ?_ _) | (with_reducible refine Below.setCell ?_ ?_ _) | (with_reducible refine Below.drew ?_) | (with_reducible refine below_drewN ?_ _) | (apply bthen2; (with_reducible assumption)) | go_size))⟩)
  case rest =>
  obtain ⟨bx26, a26_, l26_, c26_, lo26, hi26, rfl, rfl, B26, S26, o26a, o26b, o26c, o26d, hb⟩ := hcut
  obtain ⟨V25, hV⟩ : ∃ x, x = wc := ⟨_, rfl⟩
  subst hV
  have hu26 := B26.1
  have hz27 := hb.size
  have B28 := B21.below hb
  have B29 := B22.below hb
  have B30 := B23.below hb
  have B31 := B19.below hb
  have S32 := S24.belowS hb
  have S33 := S19.belowS hb
  have S34 := R19.belowS hb
  have hB : Below w.heap.size w V25 := hB.trans (hb.mono hB.size)
  clear B21 B22 B23 B19 S24 S19 R19 hb
  have B26_0 := B26.2.1 0 _ rfl
  have B26_1 := B26.2.1 1 _ rfl
  have B30_0 := B30.2.1 0 _ rfl
  have B30_1 := B30.2.1 1 _ rfl
  go_wp2_with fail
  refine (eqWhole_same _ _ _ _ _ _ _ RX _ ?_ ?_).mono ?_
  · exact S26.ints
  · exact S32.ints
  rintro e V35 ⟨rfl, hb⟩
  clear B26_0 B26_1 B30_0 B30_1
  have hz36 := hb.size
  have B37 := B28.below hb
  have B38 := B29.below hb
  have B39 := B30.below hb
  have B40 := B31.below hb
  have B41 := B26.below hb
  have S42 := S32.belowS hb
  have S43 := S33.belowS hb
  have S44 := S34.belowS hb
  have S45 := S26.belowS hb
  have hB : Below w.heap.size w V35 := hB.trans (hb.mono hB.size)
  clear B28 B29 B30 B31 B26 S32 S33 S34 S26 hb
  try go_upto_region 10 with fail
  go_region_held3 (fun w' => Below V35.heap.size V35 w' ∧ w'.cell? ⟨bx19, 0, none⟩ = some (.bool n0) ∧ w'.cell? ⟨bx19, 1, none⟩ = some (.slice a19_ l19_ c19_) ∧ w'.cell? ⟨bx19, 2, none⟩ = some (.bool m0) ∧ w'.cell? ⟨bx19, 3, none⟩ = some (.slice b19_ m19_ d19_) ∧ w'.cell? ⟨w.heap.size + 1, 0, none⟩ = some (.bool n0) ∧ w'.cell? ⟨w.heap.size + 1, 1, none⟩ = some (.slice a0 l0 c0) ∧ w'.cell? ⟨w.heap.size + 1, 2, none⟩ = some (.bool m0) ∧ w'.cell? ⟨w.heap.size + 1, 3, none⟩ = some (.slice b0 p0 q0)) ((refine (fun hbK => And.intro hbK (by exact ⟨(hbK.cell (p := ⟨bx19, 0, none⟩) (B40).1).trans (B40.2.1 0 _ rfl), (hbK.cell (p := ⟨bx19, 1, none⟩) (B40).1).trans (B40.2.1 1 _ rfl), (hbK.cell (p := ⟨bx19, 2, none⟩) (B40).1).trans (B40.2.1 2 _ rfl), (hbK.cell (p := ⟨bx19, 3, none⟩) (B40).1).trans (B40.2.1 3 _ rfl), (hbK.cell (p := ⟨w.heap.size + 1, 0, none⟩) (B38).1).trans (B38.2.1 0 _ rfl), (hbK.cell (p := ⟨w.heap.size + 1, 1, none⟩) (B38).1).trans (B38.2.1 1 _ rfl), (hbK.cell (p := ⟨w.heap.size + 1, 2, none⟩) (B38).1).trans (B38.2.1 2 _ rfl), (hbK.cell (p := ⟨w.heap.size + 1, 3, none⟩) (B38).1).trans (B38.2.1 3 _ rfl)⟩)) ?_; repeat' (first | (with_reducible exact Below.refl _ _) | (with_reducible assumption) | (with_reducible refine Below.alloc ?_ ?_ _) | (with_reducible refine Below.setCell ?_ ?_ _) | (with_reducible refine Below.drew ?_) | (with_reducible refine below_drewN ?_ _) | (apply bthen2; (with_reducible assumption)) | go_size))) ((first | (go_at_call 32; refine (HT1.out _ ?_ ?_).mono ?_; (focus (first | (refine Ints.below hx0 ?_; (repeat' (first | (with_reducible exact Below.refl _ _) | (with_reducible assumption) | (with_reducible refine Below.alloc ?_ ?_ _) | (with_reducible refine Below.setCell ?_ ?_ _) | (with_reducible refine Below.drew ?_) | (with_reducible refine below_drewN ?_ _) | (apply bthen2; (with_reducible assumption)) | go_size)); done) | (refine Ints.below hy0 ?_; (repeat' (first | (with_reducible exact Below.refl _ _) | (with_reducible assumption) | (with_reducible refine Below.alloc ?_ ?_ _) | (with_reducible refine Below.setCell ?_ ?_ _) | (with_reducible refine Below.drew ?_) | (with_reducible refine below_drewN ?_ _) | (apply bthen2; (with_reducible assumption)) | go_size)); done))); (focus (first | (refine Ints.below hx0 ?_; (repeat' (first | (with_reducible exact Below.refl _ _) | (with_reducible assumption) | (with_reducible refine Below.alloc ?_ ?_ _) | (with_reducible refine Below.setCell ?_ ?_ _) | (with_reducible refine Below.drew ?_) | (with_reducible refine below_drewN ?_ _) | (apply bthen2; (with_reducible assumption)) | go_size)); done) | (refine Ints.below hy0 ?_; (repeat' (first | (with_reducible exact Below.refl _ _) | (with_reducible assumption) | (with_reducible refine Below.alloc ?_ ?_ _) | (with_reducible refine Below.setCell ?_ ?_ _) | (with_reducible refine Below.drew ?_) | (with_reducible refine below_drewN ?_ _) | (apply bthen2; (with_reducible assumption)) | go_size)); done))); rintro e ux ⟨tax, tlx, tcx, tbx, tmx, tdx, rfl, Tx, hbx⟩; obtain ⟨ix, jx⟩ := Tx.ints; obtain ⟨lox, hix, sgx, shx, hdx, hlx, hhx⟩ := Tx.segT hbx; (try simp only [World.size_alloc, World.size_setCell, World.size_drew, World.heap_drewN] at hlx); have hzx := hbx.size; (try simp only [World.size_alloc, World.size_setCell, World.size_drew, World.heap_drewN] at hzx); try (have qB := Box.below (by first | exact box_made2 _ _ _ _ | exact box_made4 _ _ _ _ _ _ | (with_reducible assumption)) hbx; (try simp only [World.size_drew, World.heap_drewN] at qB); have qB0 := qB.2.1 0 _ rfl; have qB1 := qB.2.1 1 _ rfl; (try have qB2 := qB.2.1 2 _ rfl); (try have qB3 := qB.2.1 3 _ rfl); have qBf := qB.2.2)) | (go_at_call 16; refine (eqRatio_same _ _ _ _ _ _ _ _ _ _ _ _ _ _ x0 y0 _ ?_ ?_ ?_ ?_).mono ?_; (focus (first | (refine Ints.below S43.ints ?_; (repeat' (first | (with_reducible exact Below.refl _ _) | (with_reducible assumption) | (with_reducible refine Below.alloc ?_ ?_ _) | (with_reducible refine Below.setCell ?_ ?_ _) | (with_reducible refine Below.drew ?_) | (with_reducible refine below_drewN ?_ _) | (apply bthen2; (with_reducible assumption)) | go_size)); done))); (focus (first | (refine Ints.below S44.ints ?_; (repeat' (first | (with_reducible exact Below.refl _ _) | (with_reducible assumption) | (with_reducible refine Below.alloc ?_ ?_ _) | (with_reducible refine Below.setCell ?_ ?_ _) | (with_reducible refine Below.drew ?_) | (with_reducible refine below_drewN ?_ _) | (apply bthen2; (with_reducible assumption)) | go_size)); done))); (focus (first | (refine Ints.below ix ?_; (repeat' (first | (with_reducible exact Below.refl _ _) | (with_reducible assumption) | (with_reducible refine Below.alloc ?_ ?_ _) | (with_reducible refine Below.setCell ?_ ?_ _) | (with_reducible refine Below.drew ?_) | (with_reducible refine below_drewN ?_ _) | (apply bthen2; (with_reducible assumption)) | go_size)); done))); (focus (first | (refine Ints.below jx ?_; (repeat' (first | (with_reducible exact Below.refl _ _) | (with_reducible assumption) | (with_reducible refine Below.alloc ?_ ?_ _) | (with_reducible refine Below.setCell ?_ ?_ _) | (with_reducible refine Below.drew ?_) | (with_reducible refine below_drewN ?_ _) | (apply bthen2; (with_reducible assumption)) | go_size)); done))); rintro e V46 ⟨rfl, hbz⟩)))
  have hb : Below V35.heap.size V35 V46 := (by repeat' (first | (with_reducible exact Below.refl _ _) | (with_reducible assumption) | (with_reducible refine Below.alloc ?_ ?_ _) | (with_reducible refine Below.setCell ?_ ?_ _) | (with_reducible refine Below.drew ?_) | (with_reducible refine below_drewN ?_ _) | (apply bthen2; (with_reducible assumption)) | go_size))
  have hz47 := hb.size
  have B48 := B37.below hb
  have B49 := B38.below hb
  have B50 := B39.below hb
  have B51 := B40.below hb
  have B52 := B41.below hb
  have S53 := S42.belowS hb
  have S54 := S43.belowS hb
  have S55 := S44.belowS hb
  have S56 := S45.belowS hb
  have hB : Below w.heap.size w V46 := hB.trans (hb.mono hB.size)
  clear B37 B38 B39 B40 B41 S42 S43 S44 S45 hb
  have B51_0 := B51.2.1 0 _ rfl
  have B51_1 := B51.2.1 1 _ rfl
  have B51_2 := B51.2.1 2 _ rfl
  have B51_3 := B51.2.1 3 _ rfl
  go_wp2_with fail
  refine (markRatio_T _ _ _ _ _ _ _ _ _ _ _ _ (1) _ S54 S55 D19 (by omega) (by omega)).mono ?_
  rintro e V57 ⟨rfl, S58, S59, hc⟩
  clear B51_0 B51_1 B51_2 B51_3
  have hz60 := hc.size
  have q0 := B48.1
  have B61 := B48.chg hc (by intro e; rcases e with e | e <;> first | (have q1 := S54.rng e; omega) | (have q1 := S55.rng e; omega))
  clear q0
  have q0 := B49.1
  have B62 := B49.chg hc (by intro e; rcases e with e | e <;> first | (have q1 := S54.rng e; omega) | (have q1 := S55.rng e; omega))
  clear q0
  have q0 := B50.1
  have B63 := B50.chg hc (by intro e; rcases e with e | e <;> first | (have q1 := S54.rng e; omega) | (have q1 := S55.rng e; omega))
  clear q0
  have q0 := B51.1
  have B64 := B51.chg hc (by intro e; rcases e with e | e <;> first | (have q1 := S54.rng e; omega) | (have q1 := S55.rng e; omega))
  clear q0
  have q0 := B52.1
  have B65 := B52.chg hc (by intro e; rcases e with e | e <;> first | (have q1 := S54.rng e; omega) | (have q1 := S55.rng e; omega))
  clear q0
  have S66 := S53.chgS hc (by intro k hk e; rcases e with e | e <;> first | (have q1 := S54.rng e; have q2 := S53.rng hk; omega) | (have q1 := S55.rng e; have q2 := S53.rng hk; omega))
  have S69 := S56.chgS hc (by intro k hk e; rcases e with e | e <;> first | (have q1 := S54.rng e; have q2 := S56.rng hk; omega) | (have q1 := S55.rng e; have q2 := S56.rng hk; omega))
  have hB : Below w.heap.size w V57 := hB.trans (hc.below (by intro k e; rcases e with e | e <;> first | (have q1 := S54.rng e; omega) | (have q1 := S55.rng e; omega)) hB.size)
  clear B48 B49 B50 B51 B52 S53 S54 S55 S56 hc
  have B65_0 := B65.2.1 0 _ rfl
  have B65_1 := B65.2.1 1 _ rfl
  have B63_0 := B63.2.1 0 _ rfl
  have B63_1 := B63.2.1 1 _ rfl
  go_wp2_with fail
  refine (eqWhole_same _ _ _ _ _ _ _ RX _ ?_ ?_).mono ?_
  · exact S69.ints
  · exact S66.ints
  rintro e V70 ⟨rfl, hb⟩
  clear B65_0 B65_1 B63_0 B63_1
  have hz71 := hb.size
  have B72 := B61.below hb
  have B73 := B62.below hb
  have B74 := B63.below hb
  have B75 := B64.below hb
  have B76 := B65.below hb
  have S77 := S66.belowS hb
  have S78 := S58.belowS hb
  have S79 := S59.belowS hb
  have S80 := S69.belowS hb
  have hB : Below w.heap.size w V70 := hB.trans (hb.mono hB.size)
  clear B61 B62 B63 B64 B65 S66 S58 S59 S69 hb
  have B76_0 := B76.2.1 0 _ rfl
  have B76_1 := B76.2.1 1 _ rfl
  go_wp2_with fail
  refine (markWhole_S _ _ _ _ _ _ _ (1) _ S80 (by omega) (by omega)).mono ?_
  rintro e V81 ⟨rfl, S82, hc⟩
  clear B76_0 B76_1
  have hz83 := hc.size
  have q0 := B72.1
  have B84 := B72.chg hc (by intro e; (have q1 := S80.rng e; omega))
  clear q0
  have q0 := B73.1
  have B85 := B73.chg hc (by intro e; (have q1 := S80.rng e; omega))
  clear q0
  have q0 := B74.1
  have B86 := B74.chg hc (by intro e; (have q1 := S80.rng e; omega))
  clear q0
  have q0 := B75.1
  have B87 := B75.chg hc (by intro e; (have q1 := S80.rng e; omega))
  clear q0
  have q0 := B76.1
  have B88 := B76.chg hc (by intro e; (have q1 := S80.rng e; omega))
  clear q0
  have S89 := S77.chgS hc (by intro k hk e; (have q1 := S80.rng e; have q2 := S77.rng hk; omega))
  have S90 := S78.chgS hc (by intro k hk e; (have q1 := S80.rng e; have q2 := S78.rng hk; omega))
  have S91 := S79.chgS hc (by intro k hk e; (have q1 := S80.rng e; have q2 := S79.rng hk; omega))
  have hB : Below w.heap.size w V81 := hB.trans (hc.below (by intro k e; (have q1 := S80.rng e; omega)) hB.size)
  clear B72 B73 B74 B75 B76 S77 S78 S79 S80 hc
  have B88_0 := B88.2.1 0 _ rfl
  have B88_1 := B88.2.1 1 _ rfl
  go_wp2_with fail
  refine (heldWhole_any _ _ _ _ RX.length 1 _ ?_ (by omega) (by omega)).mono ?_
  · exact S82.ints
  rintro e V93 ⟨rfl, hb⟩
  clear B88_0 B88_1
  have hz94 := hb.size
  have B95 := B84.below hb
  have B96 := B85.below hb
  have B97 := B86.below hb
  have B98 := B87.below hb
  have B99 := B88.below hb
  have S100 := S89.belowS hb
  have S101 := S90.belowS hb
  have S102 := S91.belowS hb
  have S103 := S82.belowS hb
  have hB : Below w.heap.size w V93 := hB.trans (hb.mono hB.size)
  clear B84 B85 B86 B87 B88 S89 S90 S91 S82 hb
  try go_upto_region 24 with fail
  go_cut [14, 15] (fun s14 s15 wx => ∃ (bx : Nat) (a : Option Addr) (l c lo hi : Nat), s14 = .pointer (some ⟨bx, 0, none⟩) ∧ s15 = .bool ok ∧ Box wx bx [.bool rn, .slice a l c] ∧ Seg wx lo hi (.slice a l c) RX ∧ V93.heap.size ≤ lo ∧ hi ≤ wx.heap.size ∧ V93.heap.size ≤ bx ∧ (bx < lo ∨ hi ≤ bx) ∧ Below V93.heap.size V93 wx)
  case first =>
    go_region_held3 (fun w' => Below V93.heap.size V93 w' ∧ w'.cell? ⟨w.heap.size, 0, none⟩ = some (.int .i64 a) ∧ w'.cell? ⟨w.heap.size, 1, none⟩ = some (.int .i64 b) ∧ w'.cell? ⟨w.heap.size + 1, 0, none⟩ = some (.bool n0) ∧ w'.cell? ⟨w.heap.size + 1, 1, none⟩ = some (.slice a0 l0 c0) ∧ w'.cell? ⟨w.heap.size + 1, 2, none⟩ = some (.bool m0) ∧ w'.cell? ⟨w.heap.size + 1, 3, none⟩ = some (.slice b0 p0 q0)) ((refine (fun hbK => And.intro hbK (by exact ⟨(hbK.cell (p := ⟨w.heap.size, 0, none⟩) (B95).1).trans (B95.2.1 0 _ rfl), (hbK.cell (p := ⟨w.heap.size, 1, none⟩) (B95).1).trans (B95.2.1 1 _ rfl), (hbK.cell (p := ⟨w.heap.size + 1, 0, none⟩) (B96).1).trans (B96.2.1 0 _ rfl), (hbK.cell (p := ⟨w.heap.size + 1, 1, none⟩) (B96).1).trans (B96.2.1 1 _ rfl), (hbK.cell (p := ⟨w.heap.size + 1, 2, none⟩) (B96).1).trans (B96.2.1 2 _ rfl), (hbK.cell (p := ⟨w.heap.size + 1, 3, none⟩) (B96).1).trans (B96.2.1 3 _ rfl)⟩)) ?_; repeat' (first | (with_reducible exact Below.refl _ _) | (with_reducible assumption) | (with_reducible refine Below.alloc ?_ ?_ _) | (with_reducible refine Below.setCell ?_ ?_ _) | (with_reducible refine Below.drew ?_) | (with_reducible refine below_drewN ?_ _) | (apply bthen2; (with_reducible assumption)) | go_size))) ((first | (go_at_call 20; refine (toCurve_any a b _).mono ?_; rintro e ua ⟨rfl, hba⟩; have hza := hba.size; (try simp only [World.size_alloc, World.size_setCell, World.size_drew, World.heap_drewN] at hza); try (have qB := Box.below (by first | exact box_made2 _ _ _ _ | exact box_made4 _ _ _ _ _ _ | (with_reducible assumption)) hba; (try simp only [World.size_drew, World.heap_drewN] at qB); have qB0 := qB.2.1 0 _ rfl; have qB1 := qB.2.1 1 _ rfl; (try have qB2 := qB.2.1 2 _ rfl); (try have qB3 := qB.2.1 3 _ rfl); have qBf := qB.2.2)) | (go_at_call 32; refine (HT1.out _ ?_ ?_).mono ?_; (focus (first | (refine Ints.below hx0 ?_; (repeat' (first | (with_reducible exact Below.refl _ _) | (with_reducible assumption) | (with_reducible refine Below.alloc ?_ ?_ _) | (with_reducible refine Below.setCell ?_ ?_ _) | (with_reducible refine Below.drew ?_) | (with_reducible refine below_drewN ?_ _) | (apply bthen2; (with_reducible assumption)) | go_size)); done) | (refine Ints.below hy0 ?_; (repeat' (first | (with_reducible exact Below.refl _ _) | (with_reducible assumption) | (with_reducible refine Below.alloc ?_ ?_ _) | (with_reducible refine Below.setCell ?_ ?_ _) | (with_reducible refine Below.drew ?_) | (with_reducible refine below_drewN ?_ _) | (apply bthen2; (with_reducible assumption)) | go_size)); done))); (focus (first | (refine Ints.below hx0 ?_; (repeat' (first | (with_reducible exact Below.refl _ _) | (with_reducible assumption) | (with_reducible refine Below.alloc ?_ ?_ _) | (with_reducible refine Below.setCell ?_ ?_ _) | (with_reducible refine Below.drew ?_) | (with_reducible refine below_drewN ?_ _) | (apply bthen2; (with_reducible assumption)) | go_size)); done) | (refine Ints.below hy0 ?_; (repeat' (first | (with_reducible exact Below.refl _ _) | (with_reducible assumption) | (with_reducible refine Below.alloc ?_ ?_ _) | (with_reducible refine Below.setCell ?_ ?_ _) | (with_reducible refine Below.drew ?_) | (with_reducible refine below_drewN ?_ _) | (apply bthen2; (with_reducible assumption)) | go_size)); done))); rintro e ub ⟨tab, tlb, tcb, tbb, tmb, tdb, rfl, Tb, hbb⟩; obtain ⟨ib, jb⟩ := Tb.ints; obtain ⟨lob, hib, sgb, shb, hdb, hlb, hhb⟩ := Tb.segT hbb; (try simp only [World.size_alloc, World.size_setCell, World.size_drew, World.heap_drewN] at hlb); have hzb := hbb.size; (try simp only [World.size_alloc, World.size_setCell, World.size_drew, World.heap_drewN] at hzb); try (have qB := Box.below (by first | exact box_made2 _ _ _ _ | exact box_made4 _ _ _ _ _ _ | (with_reducible assumption)) hbb; (try simp only [World.size_drew, World.heap_drewN] at qB); have qB0 := qB.2.1 0 _ rfl; have qB1 := qB.2.1 1 _ rfl; (try have qB2 := qB.2.1 2 _ rfl); (try have qB3 := qB.2.1 3 _ rfl); have qBf := qB.2.2)) | (go_at_call 39; refine (HI.out _ _ _ _ _ _  _ ?_ ?_ ).mono ?_; (focus (first | (refine Ints.below ib ?_; (repeat' (first | (with_reducible exact Below.refl _ _) | (with_reducible assumption) | (with_reducible refine Below.alloc ?_ ?_ _) | (with_reducible refine Below.setCell ?_ ?_ _) | (with_reducible refine Below.drew ?_) | (with_reducible refine below_drewN ?_ _) | (apply bthen2; (with_reducible assumption)) | go_size)); done))); (focus (first | (refine Ints.below jb ?_; (repeat' (first | (with_reducible exact Below.refl _ _) | (with_reducible assumption) | (with_reducible refine Below.alloc ?_ ?_ _) | (with_reducible refine Below.setCell ?_ ?_ _) | (with_reducible refine Below.drew ?_) | (with_reducible refine below_drewN ?_ _) | (apply bthen2; (with_reducible assumption)) | go_size)); done))); rintro e uz ⟨raz, rlz, rcz, rfl, hoz, hbz⟩; obtain ⟨loz, hiz, sgz, hlz, hhz⟩ := Own.segL hoz; (try simp only [World.size_alloc, World.size_setCell, World.size_drew, World.heap_drewN] at hlz); have hzz := hbz.size; (try simp only [World.size_alloc, World.size_setCell, World.size_drew, World.heap_drewN] at hzz); try (have qB := Box.below (by first | exact box_made2 _ _ _ _ | exact box_made4 _ _ _ _ _ _ | (with_reducible assumption)) hbz; (try simp only [World.size_drew, World.heap_drewN] at qB); have qB0 := qB.2.1 0 _ rfl; have qB1 := qB.2.1 1 _ rfl; (try have qB2 := qB.2.1 2 _ rfl); (try have qB3 := qB.2.1 3 _ rfl); have qBf := qB.2.2))))
    all_goals (go_wp2_with fail; go_meet; exact ⟨_, raz, rlz, rcz, loz, hiz, rfl, rfl, (by first | (with_reducible exact box_made2 _ _ _ _) | (exact Box.set (Box.set (vs := [_, _]) (by first | assumption | exact box_made2 _ _ _ _) 0 (by simp) _) 1 (by simp) _)), (by (repeat' (first | (with_reducible assumption) | (with_reducible refine Seg.set ?_ ?_ _) | (with_reducible refine Seg.alloc ?_ _) | (with_reducible refine Seg.drew ?_))); all_goals (first | omega | (simp; done) | (simp; omega))), (by first | omega | (simp; done) | (simp; omega)), (by first | omega | (simp; done) | (simp; omega)), (by first | omega | (simp; done) | (simp; omega)), (by first | omega | (simp; done) | (simp; omega)), (by repeat' (first | (with_reducible exact Below.refl _ _) | (with_reducible assumption) | (with_reducible refine Below.alloc ?_ ?_ _) | (with_reducible refine Below.setCell ?_ ?_ _) | (with_reducible refine Below.drew ?_) | (with_reducible refine below_drewN ?_ _) | (apply bthen2; (with_reducible assumption)) | go_size))⟩)
  case rest =>
  obtain ⟨bx105, a105_, l105_, c105_, lo105, hi105, rfl, rfl, B105, S105, o105a, o105b, o105c, o105d, hb⟩ := hcut
  obtain ⟨V104, hV⟩ : ∃ x, x = wc := ⟨_, rfl⟩
  subst hV
  have hu105 := B105.1
  have hz106 := hb.size
  have B107 := B95.below hb
  have B108 := B96.below hb
  have B109 := B97.below hb
  have B110 := B98.below hb
  have B111 := B99.below hb
  have S112 := S100.belowS hb
  have S113 := S101.belowS hb
  have S114 := S102.belowS hb
  have S115 := S103.belowS hb
  have hB : Below w.heap.size w V104 := hB.trans (hb.mono hB.size)
  clear B95 B96 B97 B98 B99 S100 S101 S102 S103 hb
  have B105_0 := B105.2.1 0 _ rfl
  have B105_1 := B105.2.1 1 _ rfl
  have B109_0 := B109.2.1 0 _ rfl
  have B109_1 := B109.2.1 1 _ rfl
  go_wp2_with fail
  refine (eqWhole_same _ _ _ _ _ _ _ RX _ ?_ ?_).mono ?_
  · exact S105.ints
  · exact S112.ints
  rintro e V116 ⟨rfl, hb⟩
  clear B105_0 B105_1 B109_0 B109_1
  have hz117 := hb.size
  have B118 := B107.below hb
  have B119 := B108.below hb
  have B120 := B109.below hb
  have B121 := B110.below hb
  have B122 := B111.below hb
  have B123 := B105.below hb
  have S124 := S112.belowS hb
  have S125 := S113.belowS hb
  have S126 := S114.belowS hb
  have S127 := S115.belowS hb
  have S128 := S105.belowS hb
  have hB : Below w.heap.size w V116 := hB.trans (hb.mono hB.size)
  clear B107 B108 B109 B110 B111 B105 S112 S113 S114 S115 S105 hb
  have B122_0 := B122.2.1 0 _ rfl
  have B122_1 := B122.2.1 1 _ rfl
  go_wp2_with fail
  refine (heldWhole_any _ _ _ _ RX.length 1 _ ?_ (by omega) (by omega)).mono ?_
  · exact S127.ints
  rintro e V129 ⟨rfl, hb⟩
  clear B122_0 B122_1
  have hz130 := hb.size
  have B131 := B118.below hb
  have B132 := B119.below hb
  have B133 := B120.below hb
  have B134 := B121.below hb
  have B135 := B122.below hb
  have B136 := B123.below hb
  have S137 := S124.belowS hb
  have S138 := S125.belowS hb
  have S139 := S126.belowS hb
  have S140 := S127.belowS hb
  have S141 := S128.belowS hb
  have hB : Below w.heap.size w V129 := hB.trans (hb.mono hB.size)
  clear B118 B119 B120 B121 B122 B123 S124 S125 S126 S127 S128 hb
  go_wp2_with fail
  go_ret
  exact gives rfl hB

end Go.Proofs.Ytopdeoicglkbkaa
