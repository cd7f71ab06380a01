import Derived.Test.YtopdeoicglkbkaaDT2
import Derived.Test.YtopdeoicglkbkaaBox
set_option linter.unusedSimpArgs false
set_option linter.unusedVariables false
namespace Go.Proofs.Ytopdeoicglkbkaa
open Go.RowKit

set_option maxRecDepth 100000 in
set_option maxHeartbeats 4000000 in
theorem walk_FnExactDivisorTaken (a b : Int) (n0 : Bool) (a0 : Option Addr) (l0 c0 : Nat) (x0 : List Int) (m0 : Bool) (b0 : Option Addr) (p0 q0 : Nat) (y0 : List Int) (w : World) (_w_a : (Lit.int .i64 a).wf = true) (_w_b : (Lit.int .i64 b).wf = true) (hx0 : Ints w (.slice a0 l0 c0) x0) (hy0 : Ints w (.slice b0 p0 q0) y0) : Calls Try.prog 11 #[.agg #[.int .i64 a, .int .i64 b], .agg #[.bool n0, .slice a0 l0 c0, .bool m0, .slice b0 p0 q0]] w (Gives (.bool true) w) := by
  obtain ⟨L0, hL0⟩ : ∃ L, szR x0 y0 1048576 = L := ⟨_, rfl⟩
  have HZ0 := Lib.hid (fun W h h2 => szRatio_any n0 m0 a0 b0 l0 c0 p0 q0 x0 y0 1048576 (by decide) (by decide) W h h2)
  rw [hL0] at HZ0
  by_cases g0 : L0 < 0
  · clear hL0
    go_enter Try.func11, Try.ntmps11
    go_upto_region 2 with fail
    refine name_world (fun V0 hV0 => ?_)
    have B1 : Box V0 (w.heap.size) [.int .i64 a, .int .i64 b] := by subst hV0; exact box_two (by first | (simp; done) | (simp; omega)) (by simp [go_sem]) (by simp [go_sem]) (fun o => by simp [go_sem])
    have B2 : Box V0 (w.heap.size + 1) [.bool n0, .slice a0 l0 c0, .bool m0, .slice b0 p0 q0] := by subst hV0; exact box_four (by first | (simp; done) | (simp; omega)) (by simp [go_sem]) (by simp [go_sem]) (by simp [go_sem]) (by simp [go_sem]) (fun o => by simp [go_sem])
    have hB : Below w.heap.size w V0 := by subst hV0; exact (by repeat' (first | (with_reducible exact Below.refl _ _) | (with_reducible assumption) | (with_reducible refine Below.alloc ?_ ?_ _) | (with_reducible refine Below.setCell ?_ ?_ _) | (with_reducible refine Below.drew ?_) | (with_reducible refine below_drewN ?_ _) | (apply bthen2; (with_reducible assumption)) | go_size))
    have hV1 : V0.heap.size ≤ w.heap.size + 1 + 1 ∧ w.heap.size + 1 + 1 ≤ V0.heap.size := by subst hV0; simp
    clear hV0
    have B2_0 := B2.2.1 0 _ rfl
    have B2_1 := B2.2.1 1 _ rfl
    have B2_2 := B2.2.1 2 _ rfl
    have B2_3 := B2.2.1 3 _ rfl
    go_wp2_with fail
    refine (HZ0.out _ ?_ ?_).mono ?_
    · exact Ints.below hx0 hB
    · exact Ints.below hy0 hB
    rintro e V3 ⟨rfl, hb⟩
    clear B2_0 B2_1 B2_2 B2_3
    have hz4 := hb.size
    have B5 := B1.below hb
    have B6 := B2.below hb
    have hB : Below w.heap.size w V3 := hB.trans (hb.mono hB.size)
    clear B1 B2 hb
    go_wp2
    go_ret
    exact gives rfl hB
  have hq0 := szR_ok (xs := x0) (ys := y0) (left := 1048576) (by decide) (by decide) (by rw [hL0]; exact g0)
  rw [hL0] at hq0
  have HT1 := Lib.hid (fun W h h2 => toRatio_two n0 m0 a0 b0 l0 c0 p0 q0 x0 y0 W h h2 hq0.2.1 hq0.2.2)
  have HS := Lib.hid (fun p0 q0 r0 p1 q1 r1 W h0 h1 => sDivisorTaken_any a b n0 m0 p0 p1 q0 q1 r0 r1 x0 y0 W h0 h1)
  have HI := Lib.hid (fun p0 q0 r0 p1 q1 r1 W h0 h1 => DivisorTaken_any a b n0 m0 p0 p1 q0 q1 r0 r1 x0 y0 W h0 h1)
  obtain ⟨d, ok, hR⟩ : ∃ d ok, dtV a b n0 x0 m0 y0 = (d, ok) := ⟨_, _, rfl⟩
  rw [hR] at HS HI
  dsimp only at HS HI
  clear hR
  obtain ⟨hn0, hm0⟩ := hq0.2
  clear hL0 hq0
  go_enter Try.func11, Try.ntmps11
  go_upto_region 2 with fail
  refine name_world (fun V0 hV0 => ?_)
  have B7 : Box V0 (w.heap.size) [.int .i64 a, .int .i64 b] := by subst hV0; exact box_two (by first | (simp; done) | (simp; omega)) (by simp [go_sem]) (by simp [go_sem]) (fun o => by simp [go_sem])
  have B8 : Box V0 (w.heap.size + 1) [.bool n0, .slice a0 l0 c0, .bool m0, .slice b0 p0 q0] := by subst hV0; exact box_four (by first | (simp; done) | (simp; omega)) (by simp [go_sem]) (by simp [go_sem]) (by simp [go_sem]) (by simp [go_sem]) (fun o => by simp [go_sem])
  have hB : Below w.heap.size w V0 := by subst hV0; exact (by repeat' (first | (with_reducible exact Below.refl _ _) | (with_reducible assumption) | (with_reducible refine Below.alloc ?_ ?_ _) | (with_reducible refine Below.setCell ?_ ?_ _) | (with_reducible refine Below.drew ?_) | (with_reducible refine below_drewN ?_ _) | (apply bthen2; (with_reducible assumption)) | go_size))
  have hV1 : V0.heap.size ≤ w.heap.size + 1 + 1 ∧ w.heap.size + 1 + 1 ≤ V0.heap.size := by subst hV0; simp
  clear hV0
  have B8_0 := B8.2.1 0 _ rfl
  have B8_1 := B8.2.1 1 _ rfl
  have B8_2 := B8.2.1 2 _ rfl
  have B8_3 := B8.2.1 3 _ rfl
  go_wp2_with fail
  refine (HZ0.out _ ?_ ?_).mono ?_
  · exact Ints.below hx0 hB
  · exact Ints.below hy0 hB
  rintro e V9 ⟨rfl, hb⟩
  clear B8_0 B8_1 B8_2 B8_3
  have hz10 := hb.size
  have B11 := B7.below hb
  have B12 := B8.below hb
  have hB : Below w.heap.size w V9 := hB.trans (hb.mono hB.size)
  clear B7 B8 hb
  try go_upto_region 5 with fail
  go_cut [6, 7] (fun s6 s7 wx => s6 = .int .i64 d ∧ s7 = .bool ok ∧ Below V9.heap.size V9 wx)
  case first =>
    go_region_held3 (fun w' => Below V9.heap.size V9 w' ∧ w'.cell? ⟨w.heap.size, 0, none⟩ = some (.int .i64 a) ∧ w'.cell? ⟨w.heap.size, 1, none⟩ = some (.int .i64 b) ∧ w'.cell? ⟨w.heap.size + 1, 0, none⟩ = some (.bool n0) ∧ w'.cell? ⟨w.heap.size + 1, 1, none⟩ = some (.slice a0 l0 c0) ∧ w'.cell? ⟨w.heap.size + 1, 2, none⟩ = some (.bool m0) ∧ w'.cell? ⟨w.heap.size + 1, 3, none⟩ = some (.slice b0 p0 q0)) ((refine (fun hbK => And.intro hbK (by exact ⟨(hbK.cell (p := ⟨w.heap.size, 0, none⟩) (B11).1).trans (B11.2.1 0 _ rfl), (hbK.cell (p := ⟨w.heap.size, 1, none⟩) (B11).1).trans (B11.2.1 1 _ rfl), (hbK.cell (p := ⟨w.heap.size + 1, 0, none⟩) (B12).1).trans (B12.2.1 0 _ rfl), (hbK.cell (p := ⟨w.heap.size + 1, 1, none⟩) (B12).1).trans (B12.2.1 1 _ rfl), (hbK.cell (p := ⟨w.heap.size + 1, 2, none⟩) (B12).1).trans (B12.2.1 2 _ rfl), (hbK.cell (p := ⟨w.heap.size + 1, 3, none⟩) (B12).1).trans (B12.2.1 3 _ rfl)⟩)) ?_; repeat' (first | (with_reducible exact Below.refl _ _) | (with_reducible assumption) | (with_reducible refine Below.alloc ?_ ?_ _) | (with_reducible refine Below.setCell ?_ ?_ _) | (with_reducible refine Below.drew ?_) | (with_reducible refine below_drewN ?_ _) | (apply bthen2; (with_reducible assumption)) | go_size))) ((first | (go_at_call 20; refine (toCurve_any a b _).mono ?_; rintro e ua ⟨rfl, hba⟩; have hza := hba.size; (try simp only [World.size_alloc, World.size_setCell, World.size_drew, World.heap_drewN] at hza); try (have qB := Box.below (by first | exact box_made2 _ _ _ _ | exact box_made4 _ _ _ _ _ _ | (with_reducible assumption)) hba; (try simp only [World.size_drew, World.heap_drewN] at qB); have qB0 := qB.2.1 0 _ rfl; have qB1 := qB.2.1 1 _ rfl; (try have qB2 := qB.2.1 2 _ rfl); (try have qB3 := qB.2.1 3 _ rfl); have qBf := qB.2.2)) | (go_at_call 32; refine (HT1.out _ ?_ ?_).mono ?_; (focus (first | (refine Ints.below hx0 ?_; (repeat' (first | (with_reducible exact Below.refl _ _) | (with_reducible assumption) | (with_reducible refine Below.alloc ?_ ?_ _) | (with_reducible refine Below.setCell ?_ ?_ _) | (with_reducible refine Below.drew ?_) | (with_reducible refine below_drewN ?_ _) | (apply bthen2; (with_reducible assumption)) | go_size)); done) | (refine Ints.below hy0 ?_; (repeat' (first | (with_reducible exact Below.refl _ _) | (with_reducible assumption) | (with_reducible refine Below.alloc ?_ ?_ _) | (with_reducible refine Below.setCell ?_ ?_ _) | (with_reducible refine Below.drew ?_) | (with_reducible refine below_drewN ?_ _) | (apply bthen2; (with_reducible assumption)) | go_size)); done))); (focus (first | (refine Ints.below hx0 ?_; (repeat' (first | (with_reducible exact Below.refl _ _) | (with_reducible assumption) | (with_reducible refine Below.alloc ?_ ?_ _) | (with_reducible refine Below.setCell ?_ ?_ _) | (with_reducible refine Below.drew ?_) | (with_reducible refine below_drewN ?_ _) | (apply bthen2; (with_reducible assumption)) | go_size)); done) | (refine Ints.below hy0 ?_; (repeat' (first | (with_reducible exact Below.refl _ _) | (with_reducible assumption) | (with_reducible refine Below.alloc ?_ ?_ _) | (with_reducible refine Below.setCell ?_ ?_ _) | (with_reducible refine Below.drew ?_) | (with_reducible refine below_drewN ?_ _) | (apply bthen2; (with_reducible assumption)) | go_size)); done))); rintro e ub ⟨tab, tlb, tcb, tbb, tmb, tdb, rfl, Tb, hbb⟩; obtain ⟨ib, jb⟩ := Tb.ints; obtain ⟨lob, hib, sgb, shb, hdb, hlb, hhb⟩ := Tb.segT hbb; (try simp only [World.size_alloc, World.size_setCell, World.size_drew, World.heap_drewN] at hlb); have hzb := hbb.size; (try simp only [World.size_alloc, World.size_setCell, World.size_drew, World.heap_drewN] at hzb); try (have qB := Box.below (by first | exact box_made2 _ _ _ _ | exact box_made4 _ _ _ _ _ _ | (with_reducible assumption)) hbb; (try simp only [World.size_drew, World.heap_drewN] at qB); have qB0 := qB.2.1 0 _ rfl; have qB1 := qB.2.1 1 _ rfl; (try have qB2 := qB.2.1 2 _ rfl); (try have qB3 := qB.2.1 3 _ rfl); have qBf := qB.2.2)) | (go_at_call 42; refine (HS.out _ _ _ _ _ _  _ ?_ ?_ ).mono ?_; (focus (first | (refine Ints.below ib ?_; (repeat' (first | (with_reducible exact Below.refl _ _) | (with_reducible assumption) | (with_reducible refine Below.alloc ?_ ?_ _) | (with_reducible refine Below.setCell ?_ ?_ _) | (with_reducible refine Below.drew ?_) | (with_reducible refine below_drewN ?_ _) | (apply bthen2; (with_reducible assumption)) | go_size)); done))); (focus (first | (refine Ints.below jb ?_; (repeat' (first | (with_reducible exact Below.refl _ _) | (with_reducible assumption) | (with_reducible refine Below.alloc ?_ ?_ _) | (with_reducible refine Below.setCell ?_ ?_ _) | (with_reducible refine Below.drew ?_) | (with_reducible refine below_drewN ?_ _) | (apply bthen2; (with_reducible assumption)) | go_size)); done))); rintro e uz ⟨rfl, hbz⟩; have hzz := hbz.size; (try simp only [World.size_alloc, World.size_setCell, World.size_drew, World.heap_drewN] at hzz))))
    all_goals (go_wp2_with fail; go_meet; exact ⟨rfl, rfl, (by repeat' (first | (with_reducible exact Below.refl _ _) | (with_reducible assumption) | (with_reducible refine Below.alloc ?_ ?_ _) | (with_reducible refine Below.setCell ?_ ?_ _) | (with_reducible refine Below.drew ?_) | (with_reducible refine below_drewN ?_ _) | (apply bthen2; (with_reducible assumption)) | go_size))⟩)
  case rest =>
  obtain ⟨rfl, rfl, hb⟩ := hcut
  obtain ⟨V13, hV⟩ : ∃ x, x = wc := ⟨_, rfl⟩
  subst hV
  have hz15 := hb.size
  have B16 := B11.below hb
  have B17 := B12.below hb
  have hB : Below w.heap.size w V13 := hB.trans (hb.mono hB.size)
  clear B11 B12 hb
  try go_upto_region 6 with fail
  go_cut [8] (fun s8 wx => ∃ (bx : Nat) (a : Option Addr) (l c : Nat) (b : Option Addr) (m d lo hi : Nat), s8 = .pointer (some ⟨bx, 0, none⟩) ∧ Box wx bx [.bool n0, .slice a l c, .bool m0, .slice b m d] ∧ Seg wx lo hi (.slice a l c) x0 ∧ Seg wx lo hi (.slice b m d) y0 ∧ (∀ k, (Value.slice a l c).ownBlock = some k → (Value.slice b m d).ownBlock ≠ some k) ∧ V13.heap.size ≤ lo ∧ hi ≤ wx.heap.size ∧ V13.heap.size ≤ bx ∧ (bx < lo ∨ hi ≤ bx) ∧ Below V13.heap.size V13 wx)
  case first =>
    have B17_0 := B17.2.1 0 _ rfl
    have B17_1 := B17.2.1 1 _ rfl
    have B17_2 := B17.2.1 2 _ rfl
    have B17_3 := B17.2.1 3 _ rfl
    go_wp2_with (first | (go_at_call 32; refine (HT1.out _ ?_ ?_).mono ?_; (focus (first | (refine Ints.below hx0 ?_; (repeat' (first | (with_reducible exact Below.refl _ _) | (with_reducible assumption) | (with_reducible refine Below.alloc ?_ ?_ _) | (with_reducible refine Below.setCell ?_ ?_ _) | (with_reducible refine Below.drew ?_) | (with_reducible refine below_drewN ?_ _) | (apply bthen2; (with_reducible assumption)) | go_size)); done) | (refine Ints.below hy0 ?_; (repeat' (first | (with_reducible exact Below.refl _ _) | (with_reducible assumption) | (with_reducible refine Below.alloc ?_ ?_ _) | (with_reducible refine Below.setCell ?_ ?_ _) | (with_reducible refine Below.drew ?_) | (with_reducible refine below_drewN ?_ _) | (apply bthen2; (with_reducible assumption)) | go_size)); done))); (focus (first | (refine Ints.below hx0 ?_; (repeat' (first | (with_reducible exact Below.refl _ _) | (with_reducible assumption) | (with_reducible refine Below.alloc ?_ ?_ _) | (with_reducible refine Below.setCell ?_ ?_ _) | (with_reducible refine Below.drew ?_) | (with_reducible refine below_drewN ?_ _) | (apply bthen2; (with_reducible assumption)) | go_size)); done) | (refine Ints.below hy0 ?_; (repeat' (first | (with_reducible exact Below.refl _ _) | (with_reducible assumption) | (with_reducible refine Below.alloc ?_ ?_ _) | (with_reducible refine Below.setCell ?_ ?_ _) | (with_reducible refine Below.drew ?_) | (with_reducible refine below_drewN ?_ _) | (apply bthen2; (with_reducible assumption)) | go_size)); done))); rintro e uz ⟨taz, tlz, tcz, tbz, tmz, tdz, rfl, Tz, hbz⟩; obtain ⟨iz, jz⟩ := Tz.ints; obtain ⟨loz, hiz, sgz, shz, hdz, hlz, hhz⟩ := Tz.segT hbz; (try simp only [World.size_alloc, World.size_setCell, World.size_drew, World.heap_drewN] at hlz); have hzz := hbz.size; (try simp only [World.size_alloc, World.size_setCell, World.size_drew, World.heap_drewN] at hzz); try (have qB := Box.below (by first | exact box_made2 _ _ _ _ | exact box_made4 _ _ _ _ _ _ | (with_reducible assumption)) hbz; (try simp only [World.size_drew, World.heap_drewN] at qB); have qB0 := qB.2.1 0 _ rfl; have qB1 := qB.2.1 1 _ rfl; (try have qB2 := qB.2.1 2 _ rfl); (try have qB3 := qB.2.1 3 _ rfl); have qBf := qB.2.2); try (have qB := Box.below (by first | exact box_made2 _ _ _ _ | exact box_made4 _ _ _ _ _ _ | (with_reducible assumption)) hbz; (try simp only [World.size_drew, World.heap_drewN] at qB); have qB0 := qB.2.1 0 _ rfl; have qB1 := qB.2.1 1 _ rfl; (try have qB2 := qB.2.1 2 _ rfl); (try have qB3 := qB.2.1 3 _ rfl); have qBf := qB.2.2)))
    all_goals (go_wp2_with fail; go_meet; exact ⟨_, taz, tlz, tcz, tbz, tmz, tdz, loz, hiz, rfl, (by first | (with_reducible exact box_made4 _ _ _ _ _ _) | (exact Box.set (Box.set (Box.set (Box.set (vs := [_, _, _, _]) (by first | assumption | exact box_made4 _ _ _ _ _ _) 0 (by simp) _) 1 (by simp) _) 2 (by simp) _) 3 (by simp) _)), (by (repeat' (first | (with_reducible assumption) | (with_reducible refine Seg.set ?_ ?_ _) | (with_reducible refine Seg.alloc ?_ _) | (with_reducible refine Seg.drew ?_))); all_goals (first | omega | (simp; done) | (simp; omega))), (by (repeat' (first | (with_reducible assumption) | (with_reducible refine Seg.set ?_ ?_ _) | (with_reducible refine Seg.alloc ?_ _) | (with_reducible refine Seg.drew ?_))); all_goals (first | omega | (simp; done) | (simp; omega))), hdz, (by first | omega | (simp; done) | (simp; omega)), (by first | omega | (simp; done) | (simp; omega)), (by first | omega | (simp; done) | (simp; omega)), (by first | omega | (simp; done) | (simp; omega)), (by repeat' (first | (with_reducible exact Below.refl _ _) | (with_reducible assumption) | (with_reducible refine Below.alloc ?_ ?_ _) | (with_reducible refine Below.setCell ?_ ?_ _) | (with_reducible refine Below.drew ?_) | (with_reducible refine below_drewN ?_ _) | (apply bthen2; (with_reducible assumption)) | go_size))⟩)
  case rest =>
  obtain ⟨bx19, a19_, l19_, c19_, b19_, m19_, d19_, lo19, hi19, rfl, B19, S19, R19, D19, o19a, o19b, o19c, o19d, hb⟩ := hcut
  obtain ⟨V18, hV⟩ : ∃ x, x = wc := ⟨_, rfl⟩
  subst hV
  have hu19 := B19.1
  have hz20 := hb.size
  have B21 := B16.below hb
  have B22 := B17.below hb
  have hB : Below w.heap.size w V18 := hB.trans (hb.mono hB.size)
  clear B16 B17 hb
  try go_upto_region 7 with fail
  go_cut [9, 10] (fun s9 s10 wx => s9 = .int .i64 d ∧ s10 = .bool ok ∧ Below V18.heap.size V18 wx)
  case first =>
    go_region_held3 (fun w' => Below V18.heap.size V18 w' ∧ w'.cell? ⟨w.heap.size, 0, none⟩ = some (.int .i64 a) ∧ w'.cell? ⟨w.heap.size, 1, none⟩ = some (.int .i64 b) ∧ w'.cell? ⟨bx19, 0, none⟩ = some (.bool n0) ∧ w'.cell? ⟨bx19, 1, none⟩ = some (.slice a19_ l19_ c19_) ∧ w'.cell? ⟨bx19, 2, none⟩ = some (.bool m0) ∧ w'.cell? ⟨bx19, 3, none⟩ = some (.slice b19_ m19_ d19_)) ((refine (fun hbK => And.intro hbK (by exact ⟨(hbK.cell (p := ⟨w.heap.size, 0, none⟩) (B21).1).trans (B21.2.1 0 _ rfl), (hbK.cell (p := ⟨w.heap.size, 1, none⟩) (B21).1).trans (B21.2.1 1 _ rfl), (hbK.cell (p := ⟨bx19, 0, none⟩) (B19).1).trans (B19.2.1 0 _ rfl), (hbK.cell (p := ⟨bx19, 1, none⟩) (B19).1).trans (B19.2.1 1 _ rfl), (hbK.cell (p := ⟨bx19, 2, none⟩) (B19).1).trans (B19.2.1 2 _ rfl), (hbK.cell (p := ⟨bx19, 3, none⟩) (B19).1).trans (B19.2.1 3 _ rfl)⟩)) ?_; repeat' (first | (with_reducible exact Below.refl _ _) | (with_reducible assumption) | (with_reducible refine Below.alloc ?_ ?_ _) | (with_reducible refine Below.setCell ?_ ?_ _) | (with_reducible refine Below.drew ?_) | (with_reducible refine below_drewN ?_ _) | (apply bthen2; (with_reducible assumption)) | go_size))) ((first | (go_at_call 20; refine (toCurve_any a b _).mono ?_; rintro e ua ⟨rfl, hba⟩; have hza := hba.size; (try simp only [World.size_alloc, World.size_setCell, World.size_drew, World.heap_drewN] at hza); try (have qB := Box.below (by first | exact box_made2 _ _ _ _ | exact box_made4 _ _ _ _ _ _ | (with_reducible assumption)) hba; (try simp only [World.size_drew, World.heap_drewN] at qB); have qB0 := qB.2.1 0 _ rfl; have qB1 := qB.2.1 1 _ rfl; (try have qB2 := qB.2.1 2 _ rfl); (try have qB3 := qB.2.1 3 _ rfl); have qBf := qB.2.2)) | (go_at_call 43; refine (HI.out _ _ _ _ _ _  _ ?_ ?_ ).mono ?_; (focus (first | (refine Ints.below S19.ints ?_; (repeat' (first | (with_reducible exact Below.refl _ _) | (with_reducible assumption) | (with_reducible refine Below.alloc ?_ ?_ _) | (with_reducible refine Below.setCell ?_ ?_ _) | (with_reducible refine Below.drew ?_) | (with_reducible refine below_drewN ?_ _) | (apply bthen2; (with_reducible assumption)) | go_size)); done))); (focus (first | (refine Ints.below R19.ints ?_; (repeat' (first | (with_reducible exact Below.refl _ _) | (with_reducible assumption) | (with_reducible refine Below.alloc ?_ ?_ _) | (with_reducible refine Below.setCell ?_ ?_ _) | (with_reducible refine Below.drew ?_) | (with_reducible refine below_drewN ?_ _) | (apply bthen2; (with_reducible assumption)) | go_size)); done))); rintro e uz ⟨rfl, hbz⟩; have hzz := hbz.size; (try simp only [World.size_alloc, World.size_setCell, World.size_drew, World.heap_drewN] at hzz))))
    all_goals (go_wp2_with fail; go_meet; exact ⟨rfl, rfl, (by repeat' (first | (with_reducible exact Below.refl _ _) | (with_reducible assumption) | (with_reducible refine Below.alloc ?_ ?_ _) | (with_reducible refine Below.setCell ?_ ?_ _) | (with_reducible refine Below.drew ?_) | (with_reducible refine below_drewN ?_ _) | (apply bthen2; (with_reducible assumption)) | go_size))⟩)
  case rest =>
  obtain ⟨rfl, rfl, hb⟩ := hcut
  obtain ⟨V23, hV⟩ : ∃ x, x = wc := ⟨_, rfl⟩
  subst hV
  have hz25 := hb.size
  have B26 := B21.below hb
  have B27 := B22.below hb
  have B28 := B19.below hb
  have S29 := S19.belowS hb
  have S30 := R19.belowS hb
  have hB : Below w.heap.size w V23 := hB.trans (hb.mono hB.size)
  clear B21 B22 B19 S19 R19 hb
  try go_upto_region 10 with fail
  go_region_held3 (fun w' => Below V23.heap.size V23 w' ∧ w'.cell? ⟨bx19, 0, none⟩ = some (.bool n0) ∧ w'.cell? ⟨bx19, 1, none⟩ = some (.slice a19_ l19_ c19_) ∧ w'.cell? ⟨bx19, 2, none⟩ = some (.bool m0) ∧ w'.cell? ⟨bx19, 3, none⟩ = some (.slice b19_ m19_ d19_) ∧ w'.cell? ⟨w.heap.size + 1, 0, none⟩ = some (.bool n0) ∧ w'.cell? ⟨w.heap.size + 1, 1, none⟩ = some (.slice a0 l0 c0) ∧ w'.cell? ⟨w.heap.size + 1, 2, none⟩ = some (.bool m0) ∧ w'.cell? ⟨w.heap.size + 1, 3, none⟩ = some (.slice b0 p0 q0)) ((refine (fun hbK => And.intro hbK (by exact ⟨(hbK.cell (p := ⟨bx19, 0, none⟩) (B28).1).trans (B28.2.1 0 _ rfl), (hbK.cell (p := ⟨bx19, 1, none⟩) (B28).1).trans (B28.2.1 1 _ rfl), (hbK.cell (p := ⟨bx19, 2, none⟩) (B28).1).trans (B28.2.1 2 _ rfl), (hbK.cell (p := ⟨bx19, 3, none⟩) (B28).1).trans (B28.2.1 3 _ rfl), (hbK.cell (p := ⟨w.heap.size + 1, 0, none⟩) (B27).1).trans (B27.2.1 0 _ rfl), (hbK.cell (p := ⟨w.heap.size + 1, 1, none⟩) (B27).1).trans (B27.2.1 1 _ rfl), (hbK.cell (p := ⟨w.heap.size + 1, 2, none⟩) (B27).1).trans (B27.2.1 2 _ rfl), (hbK.cell (p := ⟨w.heap.size + 1, 3, none⟩) (B27).1).trans (B27.2.1 3 _ rfl)⟩)) ?_; repeat' (first | (with_reducible exact Below.refl _ _) | (with_reducible assumption) | (with_reducible refine Below.alloc ?_ ?_ _) | (with_reducible refine Below.setCell ?_ ?_ _) | (with_reducible refine Below.drew ?_) | (with_reducible refine below_drewN ?_ _) | (apply bthen2; (with_reducible assumption)) | go_size))) ((first | (go_at_call 32; refine (HT1.out _ ?_ ?_).mono ?_; (focus (first | (refine Ints.below hx0 ?_; (repeat' (first | (with_reducible exact Below.refl _ _) | (with_reducible assumption) | (with_reducible refine Below.alloc ?_ ?_ _) | (with_reducible refine Below.setCell ?_ ?_ _) | (with_reducible refine Below.drew ?_) | (with_reducible refine below_drewN ?_ _) | (apply bthen2; (with_reducible assumption)) | go_size)); done) | (refine Ints.below hy0 ?_; (repeat' (first | (with_reducible exact Below.refl _ _) | (with_reducible assumption) | (with_reducible refine Below.alloc ?_ ?_ _) | (with_reducible refine Below.setCell ?_ ?_ _) | (with_reducible refine Below.drew ?_) | (with_reducible refine below_drewN ?_ _) | (apply bthen2; (with_reducible assumption)) | go_size)); done))); (focus (first | (refine Ints.below hx0 ?_; (repeat' (first | (with_reducible exact Below.refl _ _) | (with_reducible assumption) | (with_reducible refine Below.alloc ?_ ?_ _) | (with_reducible refine Below.setCell ?_ ?_ _) | (with_reducible refine Below.drew ?_) | (with_reducible refine below_drewN ?_ _) | (apply bthen2; (with_reducible assumption)) | go_size)); done) | (refine Ints.below hy0 ?_; (repeat' (first | (with_reducible exact Below.refl _ _) | (with_reducible assumption) | (with_reducible refine Below.alloc ?_ ?_ _) | (with_reducible refine Below.setCell ?_ ?_ _) | (with_reducible refine Below.drew ?_) | (with_reducible refine below_drewN ?_ _) | (apply bthen2; (with_reducible assumption)) | go_size)); done))); rintro e ux ⟨tax, tlx, tcx, tbx, tmx, tdx, rfl, Tx, hbx⟩; obtain ⟨ix, jx⟩ := Tx.ints; obtain ⟨lox, hix, sgx, shx, hdx, hlx, hhx⟩ := Tx.segT hbx; (try simp only [World.size_alloc, World.size_setCell, World.size_drew, World.heap_drewN] at hlx); have hzx := hbx.size; (try simp only [World.size_alloc, World.size_setCell, World.size_drew, World.heap_drewN] at hzx); try (have qB := Box.below (by first | exact box_made2 _ _ _ _ | exact box_made4 _ _ _ _ _ _ | (with_reducible assumption)) hbx; (try simp only [World.size_drew, World.heap_drewN] at qB); have qB0 := qB.2.1 0 _ rfl; have qB1 := qB.2.1 1 _ rfl; (try have qB2 := qB.2.1 2 _ rfl); (try have qB3 := qB.2.1 3 _ rfl); have qBf := qB.2.2)) | (go_at_call 16; refine (eqRatio_same _ _ _ _ _ _ _ _ _ _ _ _ _ _ x0 y0 _ ?_ ?_ ?_ ?_).mono ?_; (focus (first | (refine Ints.below S29.ints ?_; (repeat' (first | (with_reducible exact Below.refl _ _) | (with_reducible assumption) | (with_reducible refine Below.alloc ?_ ?_ _) | (with_reducible refine Below.setCell ?_ ?_ _) | (with_reducible refine Below.drew ?_) | (with_reducible refine below_drewN ?_ _) | (apply bthen2; (with_reducible assumption)) | go_size)); done))); (focus (first | (refine Ints.below S30.ints ?_; (repeat' (first | (with_reducible exact Below.refl _ _) | (with_reducible assumption) | (with_reducible refine Below.alloc ?_ ?_ _) | (with_reducible refine Below.setCell ?_ ?_ _) | (with_reducible refine Below.drew ?_) | (with_reducible refine below_drewN ?_ _) | (apply bthen2; (with_reducible assumption)) | go_size)); done))); (focus (first | (refine Ints.below ix ?_; (repeat' (first | (with_reducible exact Below.refl _ _) | (with_reducible assumption) | (with_reducible refine Below.alloc ?_ ?_ _) | (with_reducible refine Below.setCell ?_ ?_ _) | (with_reducible refine Below.drew ?_) | (with_reducible refine below_drewN ?_ _) | (apply bthen2; (with_reducible assumption)) | go_size)); done))); (focus (first | (refine Ints.below jx ?_; (repeat' (first | (with_reducible exact Below.refl _ _) | (with_reducible assumption) | (with_reducible refine Below.alloc ?_ ?_ _) | (with_reducible refine Below.setCell ?_ ?_ _) | (with_reducible refine Below.drew ?_) | (with_reducible refine below_drewN ?_ _) | (apply bthen2; (with_reducible assumption)) | go_size)); done))); rintro e V31 ⟨rfl, hbz⟩)))
  have hb : Below V23.heap.size V23 V31 := (by repeat' (first | (with_reducible exact Below.refl _ _) | (with_reducible assumption) | (with_reducible refine Below.alloc ?_ ?_ _) | (with_reducible refine Below.setCell ?_ ?_ _) | (with_reducible refine Below.drew ?_) | (with_reducible refine below_drewN ?_ _) | (apply bthen2; (with_reducible assumption)) | go_size))
  have hz32 := hb.size
  have B33 := B26.below hb
  have B34 := B27.below hb
  have B35 := B28.below hb
  have S36 := S29.belowS hb
  have S37 := S30.belowS hb
  have hB : Below w.heap.size w V31 := hB.trans (hb.mono hB.size)
  clear B26 B27 B28 S29 S30 hb
  go_wp2_with fail
  go_ret
  exact gives rfl hB

end Go.Proofs.Ytopdeoicglkbkaa
