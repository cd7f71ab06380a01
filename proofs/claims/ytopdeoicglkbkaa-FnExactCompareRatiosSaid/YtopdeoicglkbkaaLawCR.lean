import Derived.Test.YtopdeoicglkbkaaCmpR
set_option linter.unusedSimpArgs false
set_option linter.unusedVariables false
namespace Go.Proofs.Ytopdeoicglkbkaa
open Go.RowKit

set_option maxRecDepth 100000 in
set_option maxHeartbeats 4000000 in
theorem walk_FnExactCompareRatios (n0 : Bool) (a0 : Option Addr) (l0 c0 : Nat) (x0 : List Int) (m0 : Bool) (b0 : Option Addr) (p0 q0 : Nat) (y0 : List Int) (n1 : Bool) (a1 : Option Addr) (l1 c1 : Nat) (x1 : List Int) (m1 : Bool) (b1 : Option Addr) (p1 q1 : Nat) (y1 : List Int) (w : World) (hx0 : Ints w (.slice a0 l0 c0) x0) (hy0 : Ints w (.slice b0 p0 q0) y0) (hx1 : Ints w (.slice a1 l1 c1) x1) (hy1 : Ints w (.slice b1 p1 q1) y1) : Calls Try.prog 6 #[.agg #[.bool n0, .slice a0 l0 c0, .bool m0, .slice b0 p0 q0], .agg #[.bool n1, .slice a1 l1 c1, .bool m1, .slice b1 p1 q1]] w (Gives (.bool true) w) := by
  obtain ⟨L0, hL0⟩ : ∃ L, szR x0 y0 1048576 = L := ⟨_, rfl⟩
  have HZ0 := Lib.hid (fun W h h2 => szRatio_any n0 m0 a0 b0 l0 c0 p0 q0 x0 y0 1048576 (by decide) (by decide) W h h2)
  rw [hL0] at HZ0
  by_cases g0 : L0 < 0
  · clear hL0
    go_enter Try.func6, Try.ntmps6
    go_upto_region 2 with fail
    refine name_world (fun V0 hV0 => ?_)
    have B1 : Box V0 (w.heap.size) [.bool n0, .slice a0 l0 c0, .bool m0, .slice b0 p0 q0] := by subst hV0; exact box_four (by first | (simp; done) | (simp; omega)) (by simp [go_sem]) (by simp [go_sem]) (by simp [go_sem]) (by simp [go_sem]) (fun o => by simp [go_sem])
    have B2 : Box V0 (w.heap.size + 1) [.bool n1, .slice a1 l1 c1, .bool m1, .slice b1 p1 q1] := by subst hV0; exact box_four (by first | (simp; done) | (simp; omega)) (by simp [go_sem]) (by simp [go_sem]) (by simp [go_sem]) (by simp [go_sem]) (fun o => by simp [go_sem])
    have hB : Below w.heap.size w V0 := by subst hV0; exact (by repeat' (first | (with_reducible exact Below.refl _ _) | (with_reducible assumption) | (with_reducible refine Below.alloc ?_ ?_ _) | (with_reducible refine Below.setCell ?_ ?_ _) | (with_reducible refine Below.drew ?_) | (with_reducible refine below_drewN ?_ _) | (apply bthen2; (with_reducible assumption)) | go_size))
    have hV1 : V0.heap.size = w.heap.size + 1 + 1 := by subst hV0; simp
    clear hV0
    have B1_0 := B1.2.1 0 _ rfl
    have B1_1 := B1.2.1 1 _ rfl
    have B1_2 := B1.2.1 2 _ rfl
    have B1_3 := B1.2.1 3 _ rfl
    go_wp2_with fail
    refine (HZ0.out _ ?_ ?_).mono ?_
    · exact Ints.below hx0 hB
    · exact Ints.below hy0 hB
    rintro e V3 ⟨rfl, hb⟩
    clear B1_0 B1_1 B1_2 B1_3
    have hz4 := hb.size
    have B5 := B1.below hb
    have B6 := B2.below hb
    have hB : Below w.heap.size w V3 := hB.trans (hb.mono hB.size)
    clear B1 B2 hb
    go_wp2
    go_ret
    exact gives rfl hB
  have hq0 := szR_ok (xs := x0) (ys := y0) (left := 1048576) (by decide) (by decide) (by rw [hL0]; exact g0)
  rw [hL0] at hq0
  obtain ⟨L1, hL1⟩ : ∃ L, szR x1 y1 L0 = L := ⟨_, rfl⟩
  have HZ1 := Lib.hid (fun W h h2 => szRatio_any n1 m1 a1 b1 l1 c1 p1 q1 x1 y1 L0 (by omega) hq0.1 W h h2)
  rw [hL1] at HZ1
  by_cases g1 : L1 < 0
  · clear hL0 hL1
    go_enter Try.func6, Try.ntmps6
    go_upto_region 2 with fail
    refine name_world (fun V0 hV0 => ?_)
    have B7 : Box V0 (w.heap.size) [.bool n0, .slice a0 l0 c0, .bool m0, .slice b0 p0 q0] := by subst hV0; exact box_four (by first | (simp; done) | (simp; omega)) (by simp [go_sem]) (by simp [go_sem]) (by simp [go_sem]) (by simp [go_sem]) (fun o => by simp [go_sem])
    have B8 : Box V0 (w.heap.size + 1) [.bool n1, .slice a1 l1 c1, .bool m1, .slice b1 p1 q1] := by subst hV0; exact box_four (by first | (simp; done) | (simp; omega)) (by simp [go_sem]) (by simp [go_sem]) (by simp [go_sem]) (by simp [go_sem]) (fun o => by simp [go_sem])
    have hB : Below w.heap.size w V0 := by subst hV0; exact (by repeat' (first | (with_reducible exact Below.refl _ _) | (with_reducible assumption) | (with_reducible refine Below.alloc ?_ ?_ _) | (with_reducible refine Below.setCell ?_ ?_ _) | (with_reducible refine Below.drew ?_) | (with_reducible refine below_drewN ?_ _) | (apply bthen2; (with_reducible assumption)) | go_size))
    have hV1 : V0.heap.size = w.heap.size + 1 + 1 := by subst hV0; simp
    clear hV0
    have B7_0 := B7.2.1 0 _ rfl
    have B7_1 := B7.2.1 1 _ rfl
    have B7_2 := B7.2.1 2 _ rfl
    have B7_3 := B7.2.1 3 _ rfl
    go_wp2_with fail
    refine (HZ0.out _ ?_ ?_).mono ?_
    · exact Ints.below hx0 hB
    · exact Ints.below hy0 hB
    rintro e V9 ⟨rfl, hb⟩
    clear B7_0 B7_1 B7_2 B7_3
    have hz10 := hb.size
    have B11 := B7.below hb
    have B12 := B8.below hb
    have hB : Below w.heap.size w V9 := hB.trans (hb.mono hB.size)
    clear B7 B8 hb
    have B12_0 := B12.2.1 0 _ rfl
    have B12_1 := B12.2.1 1 _ rfl
    have B12_2 := B12.2.1 2 _ rfl
    have B12_3 := B12.2.1 3 _ rfl
    go_wp2_with fail
    refine (HZ1.out _ ?_ ?_).mono ?_
    · exact Ints.below hx1 hB
    · exact Ints.below hy1 hB
    rintro e V13 ⟨rfl, hb⟩
    clear B12_0 B12_1 B12_2 B12_3
    have hz14 := hb.size
    have B15 := B11.below hb
    have B16 := B12.below hb
    have hB : Below w.heap.size w V13 := hB.trans (hb.mono hB.size)
    clear B11 B12 hb
    go_wp2
    go_ret
    exact gives rfl hB
  have hq1 := szR_ok (xs := x1) (ys := y1) (left := L0) (by omega) hq0.1 (by rw [hL1]; exact g1)
  rw [hL1] at hq1
  have HT0 := Lib.hid (fun W h h2 => toRatio_two n0 m0 a0 b0 l0 c0 p0 q0 x0 y0 W h h2 hq0.2.1 hq0.2.2)
  have HT1 := Lib.hid (fun W h h2 => toRatio_two n1 m1 a1 b1 l1 c1 p1 q1 x1 y1 W h h2 hq1.2.1 hq1.2.2)
  have HS := Lib.hid (fun p0 q0 r0 p1 q1 r1 p2 q2 r2 p3 q3 r3 W h0 h1 h2 h3 => sCompareRatios_any n0 m0 n1 m1 p0 p1 p2 p3 q0 r0 q1 r1 q2 r2 q3 r3 x0 y0 x1 y1 W h0 h1 h2 h3)
  have HI := Lib.hid (fun p0 q0 r0 p1 q1 r1 p2 q2 r2 p3 q3 r3 W h0 h1 h2 h3 => CompareRatios_any n0 m0 n1 m1 p0 p1 p2 p3 q0 r0 q1 r1 q2 r2 q3 r3 x0 y0 x1 y1 W h0 h1 h2 h3)
  obtain ⟨C, ok, hR⟩ : ∃ C ok, crV n0 x0 m0 y0 n1 x1 m1 y1 = (C, ok) := ⟨_, _, rfl⟩
  rw [hR] at HS HI
  dsimp only at HS HI
  clear hR
  obtain ⟨hn0, hm0⟩ := hq0.2
  obtain ⟨hn1, hm1⟩ := hq1.2
  clear hL0 hL1 hq0 hq1
  go_enter Try.func6, Try.ntmps6
  go_upto_region 2 with fail
  refine name_world (fun V0 hV0 => ?_)
  have B17 : Box V0 (w.heap.size) [.bool n0, .slice a0 l0 c0, .bool m0, .slice b0 p0 q0] := by subst hV0; exact box_four (by first | (simp; done) | (simp; omega)) (by simp [go_sem]) (by simp [go_sem]) (by simp [go_sem]) (by simp [go_sem]) (fun o => by simp [go_sem])
  have B18 : Box V0 (w.heap.size + 1) [.bool n1, .slice a1 l1 c1, .bool m1, .slice b1 p1 q1] := by subst hV0; exact box_four (by first | (simp; done) | (simp; omega)) (by simp [go_sem]) (by simp [go_sem]) (by simp [go_sem]) (by simp [go_sem]) (fun o => by simp [go_sem])
  have hB : Below w.heap.size w V0 := by subst hV0; exact (by repeat' (first | (with_reducible exact Below.refl _ _) | (with_reducible assumption) | (with_reducible refine Below.alloc ?_ ?_ _) | (with_reducible refine Below.setCell ?_ ?_ _) | (with_reducible refine Below.drew ?_) | (with_reducible refine below_drewN ?_ _) | (apply bthen2; (with_reducible assumption)) | go_size))
  have hV1 : V0.heap.size = w.heap.size + 1 + 1 := by subst hV0; simp
  clear hV0
  have B17_0 := B17.2.1 0 _ rfl
  have B17_1 := B17.2.1 1 _ rfl
  have B17_2 := B17.2.1 2 _ rfl
  have B17_3 := B17.2.1 3 _ rfl
  go_wp2_with fail
  refine (HZ0.out _ ?_ ?_).mono ?_
  · exact Ints.below hx0 hB
  · exact Ints.below hy0 hB
  rintro e V19 ⟨rfl, hb⟩
  clear B17_0 B17_1 B17_2 B17_3
  have hz20 := hb.size
  have B21 := B17.below hb
  have B22 := B18.below hb
  have hB : Below w.heap.size w V19 := hB.trans (hb.mono hB.size)
  clear B17 B18 hb
  have B22_0 := B22.2.1 0 _ rfl
  have B22_1 := B22.2.1 1 _ rfl
  have B22_2 := B22.2.1 2 _ rfl
  have B22_3 := B22.2.1 3 _ rfl
  go_wp2_with fail
  refine (HZ1.out _ ?_ ?_).mono ?_
  · exact Ints.below hx1 hB
  · exact Ints.below hy1 hB
  rintro e V23 ⟨rfl, hb⟩
  clear B22_0 B22_1 B22_2 B22_3
  have hz24 := hb.size
  have B25 := B21.below hb
  have B26 := B22.below hb
  have hB : Below w.heap.size w V23 := hB.trans (hb.mono hB.size)
  clear B21 B22 hb
  try go_upto_region 8 with fail
  go_cut [6, 7] (fun s6 s7 wx => s6 = .int .i64 C ∧ s7 = .bool ok ∧ Below V23.heap.size V23 wx)
  case first =>
    go_region_held3 (fun w' => Below V23.heap.size V23 w' ∧ w'.cell? ⟨w.heap.size, 0, none⟩ = some (.bool n0) ∧ w'.cell? ⟨w.heap.size, 1, none⟩ = some (.slice a0 l0 c0) ∧ w'.cell? ⟨w.heap.size, 2, none⟩ = some (.bool m0) ∧ w'.cell? ⟨w.heap.size, 3, none⟩ = some (.slice b0 p0 q0) ∧ w'.cell? ⟨w.heap.size + 1, 0, none⟩ = some (.bool n1) ∧ w'.cell? ⟨w.heap.size + 1, 1, none⟩ = some (.slice a1 l1 c1) ∧ w'.cell? ⟨w.heap.size + 1, 2, none⟩ = some (.bool m1) ∧ w'.cell? ⟨w.heap.size + 1, 3, none⟩ = some (.slice b1 p1 q1)) ((refine (fun hbK => And.intro hbK (by exact ⟨(hbK.cell (p := ⟨w.heap.size, 0, none⟩) (B25).1).trans (B25.2.1 0 _ rfl), (hbK.cell (p := ⟨w.heap.size, 1, none⟩) (B25).1).trans (B25.2.1 1 _ rfl), (hbK.cell (p := ⟨w.heap.size, 2, none⟩) (B25).1).trans (B25.2.1 2 _ rfl), (hbK.cell (p := ⟨w.heap.size, 3, none⟩) (B25).1).trans (B25.2.1 3 _ rfl), (hbK.cell (p := ⟨w.heap.size + 1, 0, none⟩) (B26).1).trans (B26.2.1 0 _ rfl), (hbK.cell (p := ⟨w.heap.size + 1, 1, none⟩) (B26).1).trans (B26.2.1 1 _ rfl), (hbK.cell (p := ⟨w.heap.size + 1, 2, none⟩) (B26).1).trans (B26.2.1 2 _ rfl), (hbK.cell (p := ⟨w.heap.size + 1, 3, none⟩) (B26).1).trans (B26.2.1 3 _ rfl)⟩)) ?_; repeat' (first | (with_reducible exact Below.refl _ _) | (with_reducible assumption) | (with_reducible refine Below.alloc ?_ ?_ _) | (with_reducible refine Below.setCell ?_ ?_ _) | (with_reducible refine Below.drew ?_) | (with_reducible refine below_drewN ?_ _) | (apply bthen2; (with_reducible assumption)) | go_size))) ((first | (go_at_call_of 32 (Value.slice a0 l0 c0); refine (HT0.out _ ?_ ?_).mono ?_; (focus (first | (refine Ints.below hx0 ?_; (repeat' (first | (with_reducible exact Below.refl _ _) | (with_reducible assumption) | (with_reducible refine Below.alloc ?_ ?_ _) | (with_reducible refine Below.setCell ?_ ?_ _) | (with_reducible refine Below.drew ?_) | (with_reducible refine below_drewN ?_ _) | (apply bthen2; (with_reducible assumption)) | go_size)); done) | (refine Ints.below hy0 ?_; (repeat' (first | (with_reducible exact Below.refl _ _) | (with_reducible assumption) | (with_reducible refine Below.alloc ?_ ?_ _) | (with_reducible refine Below.setCell ?_ ?_ _) | (with_reducible refine Below.drew ?_) | (with_reducible refine below_drewN ?_ _) | (apply bthen2; (with_reducible assumption)) | go_size)); done))); (focus (first | (refine Ints.below hx0 ?_; (repeat' (first | (with_reducible exact Below.refl _ _) | (with_reducible assumption) | (with_reducible refine Below.alloc ?_ ?_ _) | (with_reducible refine Below.setCell ?_ ?_ _) | (with_reducible refine Below.drew ?_) | (with_reducible refine below_drewN ?_ _) | (apply bthen2; (with_reducible assumption)) | go_size)); done) | (refine Ints.below hy0 ?_; (repeat' (first | (with_reducible exact Below.refl _ _) | (with_reducible assumption) | (with_reducible refine Below.alloc ?_ ?_ _) | (with_reducible refine Below.setCell ?_ ?_ _) | (with_reducible refine Below.drew ?_) | (with_reducible refine below_drewN ?_ _) | (apply bthen2; (with_reducible assumption)) | go_size)); done))); rintro e ua ⟨taa, tla, tca, tba, tma, tda, rfl, Ta, hba⟩; obtain ⟨ia, ja⟩ := Ta.ints; obtain ⟨loa, mida, hia, sga, sha, hCa, hDa, hla, hha⟩ := Ta.segL hba; (try simp only [World.size_alloc, World.size_setCell, World.size_drew, World.heap_drewN] at hla); have hza := hba.size; (try simp only [World.size_alloc, World.size_setCell, World.size_drew, World.heap_drewN] at hza); try (have qB := Box.below (by first | exact box_made2 _ _ _ _ | exact box_made4 _ _ _ _ _ _ | (with_reducible assumption)) hba; (try simp only [World.size_drew, World.heap_drewN] at qB); have qB0 := qB.2.1 0 _ rfl; have qB1 := qB.2.1 1 _ rfl; (try have qB2 := qB.2.1 2 _ rfl); (try have qB3 := qB.2.1 3 _ rfl); have qBf := qB.2.2)) | (go_at_call_of 32 (Value.slice a1 l1 c1); refine (HT1.out _ ?_ ?_).mono ?_; (focus (first | (refine Ints.below hx1 ?_; (repeat' (first | (with_reducible exact Below.refl _ _) | (with_reducible assumption) | (with_reducible refine Below.alloc ?_ ?_ _) | (with_reducible refine Below.setCell ?_ ?_ _) | (with_reducible refine Below.drew ?_) | (with_reducible refine below_drewN ?_ _) | (apply bthen2; (with_reducible assumption)) | go_size)); done) | (refine Ints.below hy1 ?_; (repeat' (first | (with_reducible exact Below.refl _ _) | (with_reducible assumption) | (with_reducible refine Below.alloc ?_ ?_ _) | (with_reducible refine Below.setCell ?_ ?_ _) | (with_reducible refine Below.drew ?_) | (with_reducible refine below_drewN ?_ _) | (apply bthen2; (with_reducible assumption)) | go_size)); done))); (focus (first | (refine Ints.below hx1 ?_; (repeat' (first | (with_reducible exact Below.refl _ _) | (with_reducible assumption) | (with_reducible refine Below.alloc ?_ ?_ _) | (with_reducible refine Below.setCell ?_ ?_ _) | (with_reducible refine Below.drew ?_) | (with_reducible refine below_drewN ?_ _) | (apply bthen2; (with_reducible assumption)) | go_size)); done) | (refine Ints.below hy1 ?_; (repeat' (first | (with_reducible exact Below.refl _ _) | (with_reducible assumption) | (with_reducible refine Below.alloc ?_ ?_ _) | (with_reducible refine Below.setCell ?_ ?_ _) | (with_reducible refine Below.drew ?_) | (with_reducible refine below_drewN ?_ _) | (apply bthen2; (with_reducible assumption)) | go_size)); done))); rintro e ub ⟨tab, tlb, tcb, tbb, tmb, tdb, rfl, Tb, hbb⟩; obtain ⟨ib, jb⟩ := Tb.ints; obtain ⟨lob, midb, hib, sgb, shb, hCb, hDb, hlb, hhb⟩ := Tb.segL hbb; (try simp only [World.size_alloc, World.size_setCell, World.size_drew, World.heap_drewN] at hlb); have hzb := hbb.size; (try simp only [World.size_alloc, World.size_setCell, World.size_drew, World.heap_drewN] at hzb); try (have qB := Box.below (by first | exact box_made2 _ _ _ _ | exact box_made4 _ _ _ _ _ _ | (with_reducible assumption)) hbb; (try simp only [World.size_drew, World.heap_drewN] at qB); have qB0 := qB.2.1 0 _ rfl; have qB1 := qB.2.1 1 _ rfl; (try have qB2 := qB.2.1 2 _ rfl); (try have qB3 := qB.2.1 3 _ rfl); have qBf := qB.2.2)) | (go_at_call 31; refine (HS.out _ _ _ _ _ _ _ _ _ _ _ _  _ ?_ ?_ ?_ ?_ ).mono ?_; (focus (first | (refine Ints.below ia ?_; (repeat' (first | (with_reducible exact Below.refl _ _) | (with_reducible assumption) | (with_reducible refine Below.alloc ?_ ?_ _) | (with_reducible refine Below.setCell ?_ ?_ _) | (with_reducible refine Below.drew ?_) | (with_reducible refine below_drewN ?_ _) | (apply bthen2; (with_reducible assumption)) | go_size)); done))); (focus (first | (refine Ints.below ja ?_; (repeat' (first | (with_reducible exact Below.refl _ _) | (with_reducible assumption) | (with_reducible refine Below.alloc ?_ ?_ _) | (with_reducible refine Below.setCell ?_ ?_ _) | (with_reducible refine Below.drew ?_) | (with_reducible refine below_drewN ?_ _) | (apply bthen2; (with_reducible assumption)) | go_size)); done))); (focus (first | (refine Ints.below ib ?_; (repeat' (first | (with_reducible exact Below.refl _ _) | (with_reducible assumption) | (with_reducible refine Below.alloc ?_ ?_ _) | (with_reducible refine Below.setCell ?_ ?_ _) | (with_reducible refine Below.drew ?_) | (with_reducible refine below_drewN ?_ _) | (apply bthen2; (with_reducible assumption)) | go_size)); done))); (focus (first | (refine Ints.below jb ?_; (repeat' (first | (with_reducible exact Below.refl _ _) | (with_reducible assumption) | (with_reducible refine Below.alloc ?_ ?_ _) | (with_reducible refine Below.setCell ?_ ?_ _) | (with_reducible refine Below.drew ?_) | (with_reducible refine below_drewN ?_ _) | (apply bthen2; (with_reducible assumption)) | go_size)); done))); rintro e uz ⟨rfl, hbz⟩; have hzz := hbz.size; (try simp only [World.size_alloc, World.size_setCell, World.size_drew, World.heap_drewN] at hzz))))
    all_goals (go_wp2_with fail; go_meet; exact ⟨rfl, rfl, (by repeat' (first | (with_reducible exact Below.refl _ _) | (with_reducible assumption) | (with_reducible refine Below.alloc ?_ ?_ _) | (with_reducible refine Below.setCell ?_ ?_ _) | (with_reducible refine Below.drew ?_) | (with_reducible refine below_drewN ?_ _) | (apply bthen2; (with_reducible assumption)) | go_size))⟩)
  case rest =>
  obtain ⟨rfl, rfl, hb⟩ := hcut
  obtain ⟨V27, hV⟩ : ∃ x, x = wc := ⟨_, rfl⟩
  subst hV
  have hz29 := hb.size
  have B30 := B25.below hb
  have B31 := B26.below hb
  have hB : Below w.heap.size w V27 := hB.trans (hb.mono hB.size)
  clear B25 B26 hb
  try go_upto_region 9 with fail
  go_cut [8] (fun s8 wx => ∃ (bx : Nat) (a : Option Addr) (l c : Nat) (b : Option Addr) (m d lo mid hi : Nat), s8 = .pointer (some ⟨bx, 0, none⟩) ∧ Box wx bx [.bool n0, .slice a l c, .bool m0, .slice b m d] ∧ Seg wx lo mid (.slice a l c) x0 ∧ Seg wx mid hi (.slice b m d) y0 ∧ V27.heap.size ≤ lo ∧ lo ≤ mid ∧ mid ≤ hi ∧ hi ≤ wx.heap.size ∧ V27.heap.size ≤ bx ∧ (bx < lo ∨ hi ≤ bx) ∧ Below V27.heap.size V27 wx)
  case first =>
    have B30_0 := B30.2.1 0 _ rfl
    have B30_1 := B30.2.1 1 _ rfl
    have B30_2 := B30.2.1 2 _ rfl
    have B30_3 := B30.2.1 3 _ rfl
    go_wp2_with (first | (go_at_call_of 32 (Value.slice a0 l0 c0); refine (HT0.out _ ?_ ?_).mono ?_; (focus (first | (refine Ints.below hx0 ?_; (repeat' (first | (with_reducible exact Below.refl _ _) | (with_reducible assumption) | (with_reducible refine Below.alloc ?_ ?_ _) | (with_reducible refine Below.setCell ?_ ?_ _) | (with_reducible refine Below.drew ?_) | (with_reducible refine below_drewN ?_ _) | (apply bthen2; (with_reducible assumption)) | go_size)); done) | (refine Ints.below hy0 ?_; (repeat' (first | (with_reducible exact Below.refl _ _) | (with_reducible assumption) | (with_reducible refine Below.alloc ?_ ?_ _) | (with_reducible refine Below.setCell ?_ ?_ _) | (with_reducible refine Below.drew ?_) | (with_reducible refine below_drewN ?_ _) | (apply bthen2; (with_reducible assumption)) | go_size)); done))); (focus (first | (refine Ints.below hx0 ?_; (repeat' (first | (with_reducible exact Below.refl _ _) | (with_reducible assumption) | (with_reducible refine Below.alloc ?_ ?_ _) | (with_reducible refine Below.setCell ?_ ?_ _) | (with_reducible refine Below.drew ?_) | (with_reducible refine below_drewN ?_ _) | (apply bthen2; (with_reducible assumption)) | go_size)); done) | (refine Ints.below hy0 ?_; (repeat' (first | (with_reducible exact Below.refl _ _) | (with_reducible assumption) | (with_reducible refine Below.alloc ?_ ?_ _) | (with_reducible refine Below.setCell ?_ ?_ _) | (with_reducible refine Below.drew ?_) | (with_reducible refine below_drewN ?_ _) | (apply bthen2; (with_reducible assumption)) | go_size)); done))); rintro e uz ⟨taz, tlz, tcz, tbz, tmz, tdz, rfl, Tz, hbz⟩; obtain ⟨iz, jz⟩ := Tz.ints; obtain ⟨loz, midz, hiz, sgz, shz, hCz, hDz, hlz, hhz⟩ := Tz.segL hbz; (try simp only [World.size_alloc, World.size_setCell, World.size_drew, World.heap_drewN] at hlz); have hzz := hbz.size; (try simp only [World.size_alloc, World.size_setCell, World.size_drew, World.heap_drewN] at hzz); try (have qB := Box.below (by first | exact box_made2 _ _ _ _ | exact box_made4 _ _ _ _ _ _ | (with_reducible assumption)) hbz; (try simp only [World.size_drew, World.heap_drewN] at qB); have qB0 := qB.2.1 0 _ rfl; have qB1 := qB.2.1 1 _ rfl; (try have qB2 := qB.2.1 2 _ rfl); (try have qB3 := qB.2.1 3 _ rfl); have qBf := qB.2.2); try (have qB := Box.below (by first | exact box_made2 _ _ _ _ | exact box_made4 _ _ _ _ _ _ | (with_reducible assumption)) hbz; (try simp only [World.size_drew, World.heap_drewN] at qB); have qB0 := qB.2.1 0 _ rfl; have qB1 := qB.2.1 1 _ rfl; (try have qB2 := qB.2.1 2 _ rfl); (try have qB3 := qB.2.1 3 _ rfl); have qBf := qB.2.2)))
    all_goals (go_wp2_with fail; go_meet; exact ⟨_, taz, tlz, tcz, tbz, tmz, tdz, loz, midz, hiz, rfl, (by first | (with_reducible exact box_made4 _ _ _ _ _ _) | (exact Box.set (Box.set (Box.set (Box.set (vs := [_, _, _, _]) (by first | assumption | exact box_made4 _ _ _ _ _ _) 0 (by simp) _) 1 (by simp) _) 2 (by simp) _) 3 (by simp) _)), (by (repeat' (first | (with_reducible assumption) | (with_reducible refine Seg.set ?_ ?_ _) | (with_reducible refine Seg.alloc ?_ _) | (with_reducible refine Seg.drew ?_))); all_goals (first | omega | (simp; done) | (simp; omega))), (by (repeat' (first | (with_reducible assumption) | (with_reducible refine Seg.set ?_ ?_ _) | (with_reducible refine Seg.alloc ?_ _) | (with_reducible refine Seg.drew ?_))); all_goals (first | omega | (simp; done) | (simp; omega))), (by first | omega | (simp; done) | (simp; omega)), (by first | omega | (simp; done) | (simp; omega)), (by first | omega | (simp; done) | (simp; omega)), (by first | omega | (simp; done) | (simp; omega)), (by first | omega | (simp; done) | (simp; omega)), (by first | omega | (simp; done) | (simp; omega)), (by repeat' (first | (with_reducible exact Below.refl _ _) | (with_reducible assumption) | (with_reducible refine Below.alloc ?_ ?_ _) | (with_reducible refine Below.setCell ?_ ?_ _) | (with_reducible refine Below.drew ?_) | (with_reducible refine below_drewN ?_ _) | (apply bthen2; (with_reducible assumption)) | go_size))⟩)
  case rest =>
  obtain ⟨bx33, a33_, l33_, c33_, b33_, m33_, d33_, lo33, mid33, hi33, rfl, B33, S33, R33, o33a, o33e, o33f, o33b, o33c, o33d, hb⟩ := hcut
  obtain ⟨V32, hV⟩ : ∃ x, x = wc := ⟨_, rfl⟩
  subst hV
  have hu33 := B33.1
  have hz34 := hb.size
  have B35 := B30.below hb
  have B36 := B31.below hb
  have hB : Below w.heap.size w V32 := hB.trans (hb.mono hB.size)
  clear B30 B31 hb
  try go_upto_region 10 with fail
  go_cut [9] (fun s9 wx => ∃ (bx : Nat) (a : Option Addr) (l c : Nat) (b : Option Addr) (m d lo mid hi : Nat), s9 = .pointer (some ⟨bx, 0, none⟩) ∧ Box wx bx [.bool n1, .slice a l c, .bool m1, .slice b m d] ∧ Seg wx lo mid (.slice a l c) x1 ∧ Seg wx mid hi (.slice b m d) y1 ∧ V32.heap.size ≤ lo ∧ lo ≤ mid ∧ mid ≤ hi ∧ hi ≤ wx.heap.size ∧ V32.heap.size ≤ bx ∧ (bx < lo ∨ hi ≤ bx) ∧ Below V32.heap.size V32 wx)
  case first =>
    have B36_0 := B36.2.1 0 _ rfl
    have B36_1 := B36.2.1 1 _ rfl
    have B36_2 := B36.2.1 2 _ rfl
    have B36_3 := B36.2.1 3 _ rfl
    go_wp2_with (first | (go_at_call_of 32 (Value.slice a1 l1 c1); refine (HT1.out _ ?_ ?_).mono ?_; (focus (first | (refine Ints.below hx1 ?_; (repeat' (first | (with_reducible exact Below.refl _ _) | (with_reducible assumption) | (with_reducible refine Below.alloc ?_ ?_ _) | (with_reducible refine Below.setCell ?_ ?_ _) | (with_reducible refine Below.drew ?_) | (with_reducible refine below_drewN ?_ _) | (apply bthen2; (with_reducible assumption)) | go_size)); done) | (refine Ints.below hy1 ?_; (repeat' (first | (with_reducible exact Below.refl _ _) | (with_reducible assumption) | (with_reducible refine Below.alloc ?_ ?_ _) | (with_reducible refine Below.setCell ?_ ?_ _) | (with_reducible refine Below.drew ?_) | (with_reducible refine below_drewN ?_ _) | (apply bthen2; (with_reducible assumption)) | go_size)); done))); (focus (first | (refine Ints.below hx1 ?_; (repeat' (first | (with_reducible exact Below.refl _ _) | (with_reducible assumption) | (with_reducible refine Below.alloc ?_ ?_ _) | (with_reducible refine Below.setCell ?_ ?_ _) | (with_reducible refine Below.drew ?_) | (with_reducible refine below_drewN ?_ _) | (apply bthen2; (with_reducible assumption)) | go_size)); done) | (refine Ints.below hy1 ?_; (repeat' (first | (with_reducible exact Below.refl _ _) | (with_reducible assumption) | (with_reducible refine Below.alloc ?_ ?_ _) | (with_reducible refine Below.setCell ?_ ?_ _) | (with_reducible refine Below.drew ?_) | (with_reducible refine below_drewN ?_ _) | (apply bthen2; (with_reducible assumption)) | go_size)); done))); rintro e uz ⟨taz, tlz, tcz, tbz, tmz, tdz, rfl, Tz, hbz⟩; obtain ⟨iz, jz⟩ := Tz.ints; obtain ⟨loz, midz, hiz, sgz, shz, hCz, hDz, hlz, hhz⟩ := Tz.segL hbz; (try simp only [World.size_alloc, World.size_setCell, World.size_drew, World.heap_drewN] at hlz); have hzz := hbz.size; (try simp only [World.size_alloc, World.size_setCell, World.size_drew, World.heap_drewN] at hzz); try (have qB := Box.below (by first | exact box_made2 _ _ _ _ | exact box_made4 _ _ _ _ _ _ | (with_reducible assumption)) hbz; (try simp only [World.size_drew, World.heap_drewN] at qB); have qB0 := qB.2.1 0 _ rfl; have qB1 := qB.2.1 1 _ rfl; (try have qB2 := qB.2.1 2 _ rfl); (try have qB3 := qB.2.1 3 _ rfl); have qBf := qB.2.2); try (have qB := Box.below (by first | exact box_made2 _ _ _ _ | exact box_made4 _ _ _ _ _ _ | (with_reducible assumption)) hbz; (try simp only [World.size_drew, World.heap_drewN] at qB); have qB0 := qB.2.1 0 _ rfl; have qB1 := qB.2.1 1 _ rfl; (try have qB2 := qB.2.1 2 _ rfl); (try have qB3 := qB.2.1 3 _ rfl); have qBf := qB.2.2)))
    all_goals (go_wp2_with fail; go_meet; exact ⟨_, taz, tlz, tcz, tbz, tmz, tdz, loz, midz, hiz, rfl, (by first | (with_reducible exact box_made4 _ _ _ _ _ _) | (exact Box.set (Box.set (Box.set (Box.set (vs := [_, _, _, _]) (by first | assumption | exact box_made4 _ _ _ _ _ _) 0 (by simp) _) 1 (by simp) _) 2 (by simp) _) 3 (by simp) _)), (by (repeat' (first | (with_reducible assumption) | (with_reducible refine Seg.set ?_ ?_ _) | (with_reducible refine Seg.alloc ?_ _) | (with_reducible refine Seg.drew ?_))); all_goals (first | omega | (simp; done) | (simp; omega))), (by (repeat' (first | (with_reducible assumption) | (with_reducible refine Seg.set ?_ ?_ _) | (with_reducible refine Seg.alloc ?_ _) | (with_reducible refine Seg.drew ?_))); all_goals (first | omega | (simp; done) | (simp; omega))), (by first | omega | (simp; done) | (simp; omega)), (by first | omega | (simp; done) | (simp; omega)), (by first | omega | (simp; done) | (simp; omega)), (by first | omega | (simp; done) | (simp; omega)), (by first | omega | (simp; done) | (simp; omega)), (by first | omega | (simp; done) | (simp; omega)), (by repeat' (first | (with_reducible exact Below.refl _ _) | (with_reducible assumption) | (with_reducible refine Below.alloc ?_ ?_ _) | (with_reducible refine Below.setCell ?_ ?_ _) | (with_reducible refine Below.drew ?_) | (with_reducible refine below_drewN ?_ _) | (apply bthen2; (with_reducible assumption)) | go_size))⟩)
  case rest =>
  obtain ⟨bx38, a38_, l38_, c38_, b38_, m38_, d38_, lo38, mid38, hi38, rfl, B38, S38, R38, o38a, o38e, o38f, o38b, o38c, o38d, hb⟩ := hcut
  obtain ⟨V37, hV⟩ : ∃ x, x = wc := ⟨_, rfl⟩
  subst hV
  have hu38 := B38.1
  have hz39 := hb.size
  have B40 := B35.below hb
  have B41 := B36.below hb
  have B42 := B33.below hb
  have S43 := S33.belowS hb
  have S44 := R33.belowS hb
  have hB : Below w.heap.size w V37 := hB.trans (hb.mono hB.size)
  clear B35 B36 B33 S33 R33 hb
  try go_upto_region 11 with fail
  go_cut [10, 11] (fun s10 s11 wx => s10 = .int .i64 C ∧ s11 = .bool ok ∧ Below V37.heap.size V37 wx)
  case first =>
    have B42_0 := B42.2.1 0 _ rfl
    have B42_1 := B42.2.1 1 _ rfl
    have B42_2 := B42.2.1 2 _ rfl
    have B42_3 := B42.2.1 3 _ rfl
    have B38_0 := B38.2.1 0 _ rfl
    have B38_1 := B38.2.1 1 _ rfl
    have B38_2 := B38.2.1 2 _ rfl
    have B38_3 := B38.2.1 3 _ rfl
    go_wp2_with (first | (go_at_call 33; refine (HI.out _ _ _ _ _ _ _ _ _ _ _ _  _ ?_ ?_ ?_ ?_ ).mono ?_; (focus (first | (refine Ints.below S43.ints ?_; (repeat' (first | (with_reducible exact Below.refl _ _) | (with_reducible assumption) | (with_reducible refine Below.alloc ?_ ?_ _) | (with_reducible refine Below.setCell ?_ ?_ _) | (with_reducible refine Below.drew ?_) | (with_reducible refine below_drewN ?_ _) | (apply bthen2; (with_reducible assumption)) | go_size)); done))); (focus (first | (refine Ints.below S44.ints ?_; (repeat' (first | (with_reducible exact Below.refl _ _) | (with_reducible assumption) | (with_reducible refine Below.alloc ?_ ?_ _) | (with_reducible refine Below.setCell ?_ ?_ _) | (with_reducible refine Below.drew ?_) | (with_reducible refine below_drewN ?_ _) | (apply bthen2; (with_reducible assumption)) | go_size)); done))); (focus (first | (refine Ints.below S38.ints ?_; (repeat' (first | (with_reducible exact Below.refl _ _) | (with_reducible assumption) | (with_reducible refine Below.alloc ?_ ?_ _) | (with_reducible refine Below.setCell ?_ ?_ _) | (with_reducible refine Below.drew ?_) | (with_reducible refine below_drewN ?_ _) | (apply bthen2; (with_reducible assumption)) | go_size)); done))); (focus (first | (refine Ints.below R38.ints ?_; (repeat' (first | (with_reducible exact Below.refl _ _) | (with_reducible assumption) | (with_reducible refine Below.alloc ?_ ?_ _) | (with_reducible refine Below.setCell ?_ ?_ _) | (with_reducible refine Below.drew ?_) | (with_reducible refine below_drewN ?_ _) | (apply bthen2; (with_reducible assumption)) | go_size)); done))); rintro e uz ⟨rfl, hbz⟩; have hzz := hbz.size; (try simp only [World.size_alloc, World.size_setCell, World.size_drew, World.heap_drewN] at hzz)))
    all_goals (go_wp2_with fail; go_meet; exact ⟨rfl, rfl, (by repeat' (first | (with_reducible exact Below.refl _ _) | (with_reducible assumption) | (with_reducible refine Below.alloc ?_ ?_ _) | (with_reducible refine Below.setCell ?_ ?_ _) | (with_reducible refine Below.drew ?_) | (with_reducible refine below_drewN ?_ _) | (apply bthen2; (with_reducible assumption)) | go_size))⟩)
  case rest =>
  obtain ⟨rfl, rfl, hb⟩ := hcut
  obtain ⟨V45, hV⟩ : ∃ x, x = wc := ⟨_, rfl⟩
  subst hV
  have hz47 := hb.size
  have B48 := B40.below hb
  have B49 := B41.below hb
  have B50 := B42.below hb
  have B51 := B38.below hb
  have S52 := S43.belowS hb
  have S53 := S44.belowS hb
  have S54 := S38.belowS hb
  have S55 := R38.belowS hb
  have hB : Below w.heap.size w V45 := hB.trans (hb.mono hB.size)
  clear B40 B41 B42 B38 S43 S44 S38 R38 hb
  try go_upto_region 14 with fail
  go_region_held3 (fun w' => Below V45.heap.size V45 w' ∧ w'.cell? ⟨bx33, 0, none⟩ = some (.bool n0) ∧ w'.cell? ⟨bx33, 1, none⟩ = some (.slice a33_ l33_ c33_) ∧ w'.cell? ⟨bx33, 2, none⟩ = some (.bool m0) ∧ w'.cell? ⟨bx33, 3, none⟩ = some (.slice b33_ m33_ d33_) ∧ w'.cell? ⟨w.heap.size, 0, none⟩ = some (.bool n0) ∧ w'.cell? ⟨w.heap.size, 1, none⟩ = some (.slice a0 l0 c0) ∧ w'.cell? ⟨w.heap.size, 2, none⟩ = some (.bool m0) ∧ w'.cell? ⟨w.heap.size, 3, none⟩ = some (.slice b0 p0 q0)) ((refine (fun hbK => And.intro hbK (by exact ⟨(hbK.cell (p := ⟨bx33, 0, none⟩) (B50).1).trans (B50.2.1 0 _ rfl), (hbK.cell (p := ⟨bx33, 1, none⟩) (B50).1).trans (B50.2.1 1 _ rfl), (hbK.cell (p := ⟨bx33, 2, none⟩) (B50).1).trans (B50.2.1 2 _ rfl), (hbK.cell (p := ⟨bx33, 3, none⟩) (B50).1).trans (B50.2.1 3 _ rfl), (hbK.cell (p := ⟨w.heap.size, 0, none⟩) (B48).1).trans (B48.2.1 0 _ rfl), (hbK.cell (p := ⟨w.heap.size, 1, none⟩) (B48).1).trans (B48.2.1 1 _ rfl), (hbK.cell (p := ⟨w.heap.size, 2, none⟩) (B48).1).trans (B48.2.1 2 _ rfl), (hbK.cell (p := ⟨w.heap.size, 3, none⟩) (B48).1).trans (B48.2.1 3 _ rfl)⟩)) ?_; repeat' (first | (with_reducible exact Below.refl _ _) | (with_reducible assumption) | (with_reducible refine Below.alloc ?_ ?_ _) | (with_reducible refine Below.setCell ?_ ?_ _) | (with_reducible refine Below.drew ?_) | (with_reducible refine below_drewN ?_ _) | (apply bthen2; (with_reducible assumption)) | go_size))) ((first | (go_at_call_of 32 (Value.slice a0 l0 c0); refine (HT0.out _ ?_ ?_).mono ?_; (focus (first | (refine Ints.below hx0 ?_; (repeat' (first | (with_reducible exact Below.refl _ _) | (with_reducible assumption) | (with_reducible refine Below.alloc ?_ ?_ _) | (with_reducible refine Below.setCell ?_ ?_ _) | (with_reducible refine Below.drew ?_) | (with_reducible refine below_drewN ?_ _) | (apply bthen2; (with_reducible assumption)) | go_size)); done) | (refine Ints.below hy0 ?_; (repeat' (first | (with_reducible exact Below.refl _ _) | (with_reducible assumption) | (with_reducible refine Below.alloc ?_ ?_ _) | (with_reducible refine Below.setCell ?_ ?_ _) | (with_reducible refine Below.drew ?_) | (with_reducible refine below_drewN ?_ _) | (apply bthen2; (with_reducible assumption)) | go_size)); done))); (focus (first | (refine Ints.below hx0 ?_; (repeat' (first | (with_reducible exact Below.refl _ _) | (with_reducible assumption) | (with_reducible refine Below.alloc ?_ ?_ _) | (with_reducible refine Below.setCell ?_ ?_ _) | (with_reducible refine Below.drew ?_) | (with_reducible refine below_drewN ?_ _) | (apply bthen2; (with_reducible assumption)) | go_size)); done) | (refine Ints.below hy0 ?_; (repeat' (first | (with_reducible exact Below.refl _ _) | (with_reducible assumption) | (with_reducible refine Below.alloc ?_ ?_ _) | (with_reducible refine Below.setCell ?_ ?_ _) | (with_reducible refine Below.drew ?_) | (with_reducible refine below_drewN ?_ _) | (apply bthen2; (with_reducible assumption)) | go_size)); done))); rintro e ux ⟨tax, tlx, tcx, tbx, tmx, tdx, rfl, Tx, hbx⟩; obtain ⟨ix, jx⟩ := Tx.ints; obtain ⟨lox, midx, hix, sgx, shx, hCx, hDx, hlx, hhx⟩ := Tx.segL hbx; (try simp only [World.size_alloc, World.size_setCell, World.size_drew, World.heap_drewN] at hlx); have hzx := hbx.size; (try simp only [World.size_alloc, World.size_setCell, World.size_drew, World.heap_drewN] at hzx); try (have qB := Box.below (by first | exact box_made2 _ _ _ _ | exact box_made4 _ _ _ _ _ _ | (with_reducible assumption)) hbx; (try simp only [World.size_drew, World.heap_drewN] at qB); have qB0 := qB.2.1 0 _ rfl; have qB1 := qB.2.1 1 _ rfl; (try have qB2 := qB.2.1 2 _ rfl); (try have qB3 := qB.2.1 3 _ rfl); have qBf := qB.2.2)) | (go_at_call 16; refine (eqRatio_same _ _ _ _ _ _ _ _ _ _ _ _ _ _ x0 y0 _ ?_ ?_ ?_ ?_).mono ?_; (focus (first | (refine Ints.below S52.ints ?_; (repeat' (first | (with_reducible exact Below.refl _ _) | (with_reducible assumption) | (with_reducible refine Below.alloc ?_ ?_ _) | (with_reducible refine Below.setCell ?_ ?_ _) | (with_reducible refine Below.drew ?_) | (with_reducible refine below_drewN ?_ _) | (apply bthen2; (with_reducible assumption)) | go_size)); done))); (focus (first | (refine Ints.below S53.ints ?_; (repeat' (first | (with_reducible exact Below.refl _ _) | (with_reducible assumption) | (with_reducible refine Below.alloc ?_ ?_ _) | (with_reducible refine Below.setCell ?_ ?_ _) | (with_reducible refine Below.drew ?_) | (with_reducible refine below_drewN ?_ _) | (apply bthen2; (with_reducible assumption)) | go_size)); done))); (focus (first | (refine Ints.below ix ?_; (repeat' (first | (with_reducible exact Below.refl _ _) | (with_reducible assumption) | (with_reducible refine Below.alloc ?_ ?_ _) | (with_reducible refine Below.setCell ?_ ?_ _) | (with_reducible refine Below.drew ?_) | (with_reducible refine below_drewN ?_ _) | (apply bthen2; (with_reducible assumption)) | go_size)); done))); (focus (first | (refine Ints.below jx ?_; (repeat' (first | (with_reducible exact Below.refl _ _) | (with_reducible assumption) | (with_reducible refine Below.alloc ?_ ?_ _) | (with_reducible refine Below.setCell ?_ ?_ _) | (with_reducible refine Below.drew ?_) | (with_reducible refine below_drewN ?_ _) | (apply bthen2; (with_reducible assumption)) | go_size)); done))); rintro e V56 ⟨rfl, hbz⟩)))
  have hb : Below V45.heap.size V45 V56 := (by repeat' (first | (with_reducible exact Below.refl _ _) | (with_reducible assumption) | (with_reducible refine Below.alloc ?_ ?_ _) | (with_reducible refine Below.setCell ?_ ?_ _) | (with_reducible refine Below.drew ?_) | (with_reducible refine below_drewN ?_ _) | (apply bthen2; (with_reducible assumption)) | go_size))
  have hz57 := hb.size
  have B58 := B48.below hb
  have B59 := B49.below hb
  have B60 := B50.below hb
  have B61 := B51.below hb
  have S62 := S52.belowS hb
  have S63 := S53.belowS hb
  have S64 := S54.belowS hb
  have S65 := S55.belowS hb
  have hB : Below w.heap.size w V56 := hB.trans (hb.mono hB.size)
  clear B48 B49 B50 B51 S52 S53 S54 S55 hb
  try go_upto_region 16 with fail
  go_region_held3 (fun w' => Below V56.heap.size V56 w' ∧ w'.cell? ⟨bx38, 0, none⟩ = some (.bool n1) ∧ w'.cell? ⟨bx38, 1, none⟩ = some (.slice a38_ l38_ c38_) ∧ w'.cell? ⟨bx38, 2, none⟩ = some (.bool m1) ∧ w'.cell? ⟨bx38, 3, none⟩ = some (.slice b38_ m38_ d38_) ∧ w'.cell? ⟨w.heap.size + 1, 0, none⟩ = some (.bool n1) ∧ w'.cell? ⟨w.heap.size + 1, 1, none⟩ = some (.slice a1 l1 c1) ∧ w'.cell? ⟨w.heap.size + 1, 2, none⟩ = some (.bool m1) ∧ w'.cell? ⟨w.heap.size + 1, 3, none⟩ = some (.slice b1 p1 q1)) ((refine (fun hbK => And.intro hbK (by exact ⟨(hbK.cell (p := ⟨bx38, 0, none⟩) (B61).1).trans (B61.2.1 0 _ rfl), (hbK.cell (p := ⟨bx38, 1, none⟩) (B61).1).trans (B61.2.1 1 _ rfl), (hbK.cell (p := ⟨bx38, 2, none⟩) (B61).1).trans (B61.2.1 2 _ rfl), (hbK.cell (p := ⟨bx38, 3, none⟩) (B61).1).trans (B61.2.1 3 _ rfl), (hbK.cell (p := ⟨w.heap.size + 1, 0, none⟩) (B59).1).trans (B59.2.1 0 _ rfl), (hbK.cell (p := ⟨w.heap.size + 1, 1, none⟩) (B59).1).trans (B59.2.1 1 _ rfl), (hbK.cell (p := ⟨w.heap.size + 1, 2, none⟩) (B59).1).trans (B59.2.1 2 _ rfl), (hbK.cell (p := ⟨w.heap.size + 1, 3, none⟩) (B59).1).trans (B59.2.1 3 _ rfl)⟩)) ?_; repeat' (first | (with_reducible exact Below.refl _ _) | (with_reducible assumption) | (with_reducible refine Below.alloc ?_ ?_ _) | (with_reducible refine Below.setCell ?_ ?_ _) | (with_reducible refine Below.drew ?_) | (with_reducible refine below_drewN ?_ _) | (apply bthen2; (with_reducible assumption)) | go_size))) ((first | (go_at_call_of 32 (Value.slice a1 l1 c1); refine (HT1.out _ ?_ ?_).mono ?_; (focus (first | (refine Ints.below hx1 ?_; (repeat' (first | (with_reducible exact Below.refl _ _) | (with_reducible assumption) | (with_reducible refine Below.alloc ?_ ?_ _) | (with_reducible refine Below.setCell ?_ ?_ _) | (with_reducible refine Below.drew ?_) | (with_reducible refine below_drewN ?_ _) | (apply bthen2; (with_reducible assumption)) | go_size)); done) | (refine Ints.below hy1 ?_; (repeat' (first | (with_reducible exact Below.refl _ _) | (with_reducible assumption) | (with_reducible refine Below.alloc ?_ ?_ _) | (with_reducible refine Below.setCell ?_ ?_ _) | (with_reducible refine Below.drew ?_) | (with_reducible refine below_drewN ?_ _) | (apply bthen2; (with_reducible assumption)) | go_size)); done))); (focus (first | (refine Ints.below hx1 ?_; (repeat' (first | (with_reducible exact Below.refl _ _) | (with_reducible assumption) | (with_reducible refine Below.alloc ?_ ?_ _) | (with_reducible refine Below.setCell ?_ ?_ _) | (with_reducible refine Below.drew ?_) | (with_reducible refine below_drewN ?_ _) | (apply bthen2; (with_reducible assumption)) | go_size)); done) | (refine Ints.below hy1 ?_; (repeat' (first | (with_reducible exact Below.refl _ _) | (with_reducible assumption) | (with_reducible refine Below.alloc ?_ ?_ _) | (with_reducible refine Below.setCell ?_ ?_ _) | (with_reducible refine Below.drew ?_) | (with_reducible refine below_drewN ?_ _) | (apply bthen2; (with_reducible assumption)) | go_size)); done))); rintro e ux ⟨tax, tlx, tcx, tbx, tmx, tdx, rfl, Tx, hbx⟩; obtain ⟨ix, jx⟩ := Tx.ints; obtain ⟨lox, midx, hix, sgx, shx, hCx, hDx, hlx, hhx⟩ := Tx.segL hbx; (try simp only [World.size_alloc, World.size_setCell, World.size_drew, World.heap_drewN] at hlx); have hzx := hbx.size; (try simp only [World.size_alloc, World.size_setCell, World.size_drew, World.heap_drewN] at hzx); try (have qB := Box.below (by first | exact box_made2 _ _ _ _ | exact box_made4 _ _ _ _ _ _ | (with_reducible assumption)) hbx; (try simp only [World.size_drew, World.heap_drewN] at qB); have qB0 := qB.2.1 0 _ rfl; have qB1 := qB.2.1 1 _ rfl; (try have qB2 := qB.2.1 2 _ rfl); (try have qB3 := qB.2.1 3 _ rfl); have qBf := qB.2.2)) | (go_at_call 16; refine (eqRatio_same _ _ _ _ _ _ _ _ _ _ _ _ _ _ x1 y1 _ ?_ ?_ ?_ ?_).mono ?_; (focus (first | (refine Ints.below S64.ints ?_; (repeat' (first | (with_reducible exact Below.refl _ _) | (with_reducible assumption) | (with_reducible refine Below.alloc ?_ ?_ _) | (with_reducible refine Below.setCell ?_ ?_ _) | (with_reducible refine Below.drew ?_) | (with_reducible refine below_drewN ?_ _) | (apply bthen2; (with_reducible assumption)) | go_size)); done))); (focus (first | (refine Ints.below S65.ints ?_; (repeat' (first | (with_reducible exact Below.refl _ _) | (with_reducible assumption) | (with_reducible refine Below.alloc ?_ ?_ _) | (with_reducible refine Below.setCell ?_ ?_ _) | (with_reducible refine Below.drew ?_) | (with_reducible refine below_drewN ?_ _) | (apply bthen2; (with_reducible assumption)) | go_size)); done))); (focus (first | (refine Ints.below ix ?_; (repeat' (first | (with_reducible exact Below.refl _ _) | (with_reducible assumption) | (with_reducible refine Below.alloc ?_ ?_ _) | (with_reducible refine Below.setCell ?_ ?_ _) | (with_reducible refine Below.drew ?_) | (with_reducible refine below_drewN ?_ _) | (apply bthen2; (with_reducible assumption)) | go_size)); done))); (focus (first | (refine Ints.below jx ?_; (repeat' (first | (with_reducible exact Below.refl _ _) | (with_reducible assumption) | (with_reducible refine Below.alloc ?_ ?_ _) | (with_reducible refine Below.setCell ?_ ?_ _) | (with_reducible refine Below.drew ?_) | (with_reducible refine below_drewN ?_ _) | (apply bthen2; (with_reducible assumption)) | go_size)); done))); rintro e V66 ⟨rfl, hbz⟩)))
  have hb : Below V56.heap.size V56 V66 := (by repeat' (first | (with_reducible exact Below.refl _ _) | (with_reducible assumption) | (with_reducible refine Below.alloc ?_ ?_ _) | (with_reducible refine Below.setCell ?_ ?_ _) | (with_reducible refine Below.drew ?_) | (with_reducible refine below_drewN ?_ _) | (apply bthen2; (with_reducible assumption)) | go_size))
  have hz67 := hb.size
  have B68 := B58.below hb
  have B69 := B59.below hb
  have B70 := B60.below hb
  have B71 := B61.below hb
  have S72 := S62.belowS hb
  have S73 := S63.belowS hb
  have S74 := S64.belowS hb
  have S75 := S65.belowS hb
  have hB : Below w.heap.size w V66 := hB.trans (hb.mono hB.size)
  clear B58 B59 B60 B61 S62 S63 S64 S65 hb
  go_wp2_with fail
  go_ret
  exact gives rfl hB

end Go.Proofs.Ytopdeoicglkbkaa
