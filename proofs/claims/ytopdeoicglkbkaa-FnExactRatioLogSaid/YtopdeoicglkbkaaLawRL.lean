import Derived.Test.YtopdeoicglkbkaaLog2
set_option linter.unusedSimpArgs false
set_option linter.unusedVariables false
namespace Go.Proofs.Ytopdeoicglkbkaa
open Go.RowKit

set_option maxRecDepth 100000 in
set_option maxHeartbeats 4000000 in
theorem walk_FnExactRatioLog (n0 : Bool) (a0 : Option Addr) (l0 c0 : Nat) (x0 : List Int) (n1 : Bool) (a1 : Option Addr) (l1 c1 : Nat) (x1 : List Int) (k : Int) (w : World) (hx0 : Ints w (.slice a0 l0 c0) x0) (hx1 : Ints w (.slice a1 l1 c1) x1) (_w_k : (Lit.int .i64 k).wf = true) : Calls Try.prog 10 #[.agg #[.bool n0, .slice a0 l0 c0], .agg #[.bool n1, .slice a1 l1 c1], .int .i64 k] w (Gives (.bool true) w) := by
  obtain ⟨L0, hL0⟩ : ∃ L, szL x0 1048576 = L := ⟨_, rfl⟩
  have HZ0 := Lib.hid (fun W h => szWhole_any n0 a0 l0 c0 x0 1048576 (by decide) (by decide) W h)
  rw [hL0] at HZ0
  by_cases g0 : L0 < 0
  · clear hL0
    go_enter Try.func10, Try.ntmps10
    go_upto_region 2 with fail
    refine name_world (fun V0 hV0 => ?_)
    have B1 : Box V0 (w.heap.size) [.bool n0, .slice a0 l0 c0] := by subst hV0; exact box_two (by first | (simp; done) | (simp; omega)) (by simp [go_sem]) (by simp [go_sem]) (fun o => by simp [go_sem])
    have B2 : Box V0 (w.heap.size + 1) [.bool n1, .slice a1 l1 c1] := by subst hV0; exact box_two (by first | (simp; done) | (simp; omega)) (by simp [go_sem]) (by simp [go_sem]) (fun o => by simp [go_sem])
    have hB : Below w.heap.size w V0 := by subst hV0; exact (by repeat' (first | (with_reducible exact Below.refl _ _) | (with_reducible assumption) | (with_reducible refine Below.alloc ?_ ?_ _) | (with_reducible refine Below.setCell ?_ ?_ _) | (with_reducible refine Below.drew ?_) | (with_reducible refine below_drewN ?_ _) | (apply bthen2; (with_reducible assumption)) | go_size))
    have hV1 : V0.heap.size = w.heap.size + 1 + 1 := by subst hV0; simp
    clear hV0
    have B1_0 := B1.2.1 0 _ rfl
    have B1_1 := B1.2.1 1 _ rfl
    go_wp2_with fail
    refine (HZ0.out _ ?_).mono ?_
    · exact Ints.below hx0 hB
    rintro e V3 ⟨rfl, hb⟩
    clear B1_0 B1_1
    have hz4 := hb.size
    have B5 := B1.below hb
    have B6 := B2.below hb
    have hB : Below w.heap.size w V3 := hB.trans (hb.mono hB.size)
    clear B1 B2 hb
    go_wp2
    go_ret
    exact gives rfl hB
  have hq0 := szL_ok (xs := x0) (left := 1048576) (by decide) (by decide) (by rw [hL0]; exact g0)
  rw [hL0] at hq0
  obtain ⟨L1, hL1⟩ : ∃ L, szL x1 L0 = L := ⟨_, rfl⟩
  have HZ1 := Lib.hid (fun W h => szWhole_any n1 a1 l1 c1 x1 L0 (by omega) hq0.1 W h)
  rw [hL1] at HZ1
  by_cases g1 : L1 < 0
  · clear hL0 hL1
    go_enter Try.func10, Try.ntmps10
    go_upto_region 2 with fail
    refine name_world (fun V0 hV0 => ?_)
    have B7 : Box V0 (w.heap.size) [.bool n0, .slice a0 l0 c0] := by subst hV0; exact box_two (by first | (simp; done) | (simp; omega)) (by simp [go_sem]) (by simp [go_sem]) (fun o => by simp [go_sem])
    have B8 : Box V0 (w.heap.size + 1) [.bool n1, .slice a1 l1 c1] := by subst hV0; exact box_two (by first | (simp; done) | (simp; omega)) (by simp [go_sem]) (by simp [go_sem]) (fun o => by simp [go_sem])
    have hB : Below w.heap.size w V0 := by subst hV0; exact (by repeat' (first | (with_reducible exact Below.refl _ _) | (with_reducible assumption) | (with_reducible refine Below.alloc ?_ ?_ _) | (with_reducible refine Below.setCell ?_ ?_ _) | (with_reducible refine Below.drew ?_) | (with_reducible refine below_drewN ?_ _) | (apply bthen2; (with_reducible assumption)) | go_size))
    have hV1 : V0.heap.size = w.heap.size + 1 + 1 := by subst hV0; simp
    clear hV0
    have B7_0 := B7.2.1 0 _ rfl
    have B7_1 := B7.2.1 1 _ rfl
    go_wp2_with fail
    refine (HZ0.out _ ?_).mono ?_
    · exact Ints.below hx0 hB
    rintro e V9 ⟨rfl, hb⟩
    clear B7_0 B7_1
    have hz10 := hb.size
    have B11 := B7.below hb
    have B12 := B8.below hb
    have hB : Below w.heap.size w V9 := hB.trans (hb.mono hB.size)
    clear B7 B8 hb
    have B12_0 := B12.2.1 0 _ rfl
    have B12_1 := B12.2.1 1 _ rfl
    go_wp2_with fail
    refine (HZ1.out _ ?_).mono ?_
    · exact Ints.below hx1 hB
    rintro e V13 ⟨rfl, hb⟩
    clear B12_0 B12_1
    have hz14 := hb.size
    have B15 := B11.below hb
    have B16 := B12.below hb
    have hB : Below w.heap.size w V13 := hB.trans (hb.mono hB.size)
    clear B11 B12 hb
    go_wp2
    go_ret
    exact gives rfl hB
  have hq1 := szL_ok (xs := x1) (left := L0) (by omega) hq0.1 (by rw [hL1]; exact g1)
  rw [hL1] at hq1
  have HT0 := Lib.hid (fun W h => toWhole_any n0 a0 l0 c0 x0 W h hq0.2)
  have HT1 := Lib.hid (fun W h => toWhole_any n1 a1 l1 c1 x1 W h hq1.2)
  have HS := Lib.hid (fun p0 q0 r0 p1 q1 r1 W h0 h1 => sRatioLog_any n0 n1 p0 p1 q0 r0 q1 r1 x0 x1 k W h0 h1)
  have HI := Lib.hid (fun p0 q0 r0 p1 q1 r1 W h0 h1 => RatioLog_any n0 n1 p0 p1 q0 r0 q1 r1 x0 x1 k W h0 h1)
  obtain ⟨r0, r1, ok, hR⟩ : ∃ r0 r1 ok, rlV n0 x0 n1 x1 k = (r0, r1, ok) := ⟨_, _, _, rfl⟩
  rw [hR] at HS HI
  dsimp only at HS HI
  clear hR
  have hn0 := hq0.2
  have hn1 := hq1.2
  clear hL0 hL1 hq0 hq1
  go_enter Try.func10, Try.ntmps10
  go_upto_region 2 with fail
  refine name_world (fun V0 hV0 => ?_)
  have B17 : Box V0 (w.heap.size) [.bool n0, .slice a0 l0 c0] := by subst hV0; exact box_two (by first | (simp; done) | (simp; omega)) (by simp [go_sem]) (by simp [go_sem]) (fun o => by simp [go_sem])
  have B18 : Box V0 (w.heap.size + 1) [.bool n1, .slice a1 l1 c1] := by subst hV0; exact box_two (by first | (simp; done) | (simp; omega)) (by simp [go_sem]) (by simp [go_sem]) (fun o => by simp [go_sem])
  have hB : Below w.heap.size w V0 := by subst hV0; exact (by repeat' (first | (with_reducible exact Below.refl _ _) | (with_reducible assumption) | (with_reducible refine Below.alloc ?_ ?_ _) | (with_reducible refine Below.setCell ?_ ?_ _) | (with_reducible refine Below.drew ?_) | (with_reducible refine below_drewN ?_ _) | (apply bthen2; (with_reducible assumption)) | go_size))
  have hV1 : V0.heap.size = w.heap.size + 1 + 1 := by subst hV0; simp
  clear hV0
  have B17_0 := B17.2.1 0 _ rfl
  have B17_1 := B17.2.1 1 _ rfl
  go_wp2_with fail
  refine (HZ0.out _ ?_).mono ?_
  · exact Ints.below hx0 hB
  rintro e V19 ⟨rfl, hb⟩
  clear B17_0 B17_1
  have hz20 := hb.size
  have B21 := B17.below hb
  have B22 := B18.below hb
  have hB : Below w.heap.size w V19 := hB.trans (hb.mono hB.size)
  clear B17 B18 hb
  have B22_0 := B22.2.1 0 _ rfl
  have B22_1 := B22.2.1 1 _ rfl
  go_wp2_with fail
  refine (HZ1.out _ ?_).mono ?_
  · exact Ints.below hx1 hB
  rintro e V23 ⟨rfl, hb⟩
  clear B22_0 B22_1
  have hz24 := hb.size
  have B25 := B21.below hb
  have B26 := B22.below hb
  have hB : Below w.heap.size w V23 := hB.trans (hb.mono hB.size)
  clear B21 B22 hb
  try go_upto_region 8 with fail
  go_cut [8, 9, 10] (fun s8 s9 s10 wx => s8 = .int .i64 r0 ∧ s9 = .int .i64 r1 ∧ s10 = .bool ok ∧ Below V23.heap.size V23 wx)
  case first =>
    go_region_held3 (fun w' => Below V23.heap.size V23 w' ∧ w'.cell? ⟨w.heap.size, 0, none⟩ = some (.bool n0) ∧ w'.cell? ⟨w.heap.size, 1, none⟩ = some (.slice a0 l0 c0) ∧ w'.cell? ⟨w.heap.size + 1, 0, none⟩ = some (.bool n1) ∧ w'.cell? ⟨w.heap.size + 1, 1, none⟩ = some (.slice a1 l1 c1)) ((refine (fun hbK => And.intro hbK (by exact ⟨(hbK.cell (p := ⟨w.heap.size, 0, none⟩) (B25).1).trans (B25.2.1 0 _ rfl), (hbK.cell (p := ⟨w.heap.size, 1, none⟩) (B25).1).trans (B25.2.1 1 _ rfl), (hbK.cell (p := ⟨w.heap.size + 1, 0, none⟩) (B26).1).trans (B26.2.1 0 _ rfl), (hbK.cell (p := ⟨w.heap.size + 1, 1, none⟩) (B26).1).trans (B26.2.1 1 _ rfl)⟩)) ?_; repeat' (first | (with_reducible exact Below.refl _ _) | (with_reducible assumption) | (with_reducible refine Below.alloc ?_ ?_ _) | (with_reducible refine Below.setCell ?_ ?_ _) | (with_reducible refine Below.drew ?_) | (with_reducible refine below_drewN ?_ _) | (apply bthen2; (with_reducible assumption)) | go_size))) ((first | (go_at_call_of 25 (Value.slice a0 l0 c0); refine (HT0.out _ ?_).mono ?_; (focus (first | (refine Ints.below hx0 ?_; (repeat' (first | (with_reducible exact Below.refl _ _) | (with_reducible assumption) | (with_reducible refine Below.alloc ?_ ?_ _) | (with_reducible refine Below.setCell ?_ ?_ _) | (with_reducible refine Below.drew ?_) | (with_reducible refine below_drewN ?_ _) | (apply bthen2; (with_reducible assumption)) | go_size)); done))); rintro e ua ⟨taa, tla, tca, rfl, hoa, hba⟩; have ia := hoa.ints; obtain ⟨loa, hia, sga, hla, hha⟩ := Own.segL hoa; (try simp only [World.size_alloc, World.size_setCell, World.size_drew, World.heap_drewN] at hla); have hza := hba.size; (try simp only [World.size_alloc, World.size_setCell, World.size_drew, World.heap_drewN] at hza); try (have qB := Box.below (by first | exact box_made2 _ _ _ _ | exact box_made4 _ _ _ _ _ _ | (with_reducible assumption)) hba; (try simp only [World.size_drew, World.heap_drewN] at qB); have qB0 := qB.2.1 0 _ rfl; have qB1 := qB.2.1 1 _ rfl; (try have qB2 := qB.2.1 2 _ rfl); (try have qB3 := qB.2.1 3 _ rfl); have qBf := qB.2.2)) | (go_at_call_of 25 (Value.slice a1 l1 c1); refine (HT1.out _ ?_).mono ?_; (focus (first | (refine Ints.below hx1 ?_; (repeat' (first | (with_reducible exact Below.refl _ _) | (with_reducible assumption) | (with_reducible refine Below.alloc ?_ ?_ _) | (with_reducible refine Below.setCell ?_ ?_ _) | (with_reducible refine Below.drew ?_) | (with_reducible refine below_drewN ?_ _) | (apply bthen2; (with_reducible assumption)) | go_size)); done))); rintro e ub ⟨tab, tlb, tcb, rfl, hob, hbb⟩; have ib := hob.ints; obtain ⟨lob, hib, sgb, hlb, hhb⟩ := Own.segL hob; (try simp only [World.size_alloc, World.size_setCell, World.size_drew, World.heap_drewN] at hlb); have hzb := hbb.size; (try simp only [World.size_alloc, World.size_setCell, World.size_drew, World.heap_drewN] at hzb); try (have qB := Box.below (by first | exact box_made2 _ _ _ _ | exact box_made4 _ _ _ _ _ _ | (with_reducible assumption)) hbb; (try simp only [World.size_drew, World.heap_drewN] at qB); have qB0 := qB.2.1 0 _ rfl; have qB1 := qB.2.1 1 _ rfl; (try have qB2 := qB.2.1 2 _ rfl); (try have qB3 := qB.2.1 3 _ rfl); have qBf := qB.2.2)) | (go_at_call 40; refine (HS.out _ _ _ _ _ _  _ ?_ ?_ ).mono ?_; (focus (first | (refine Ints.below ia ?_; (repeat' (first | (with_reducible exact Below.refl _ _) | (with_reducible assumption) | (with_reducible refine Below.alloc ?_ ?_ _) | (with_reducible refine Below.setCell ?_ ?_ _) | (with_reducible refine Below.drew ?_) | (with_reducible refine below_drewN ?_ _) | (apply bthen2; (with_reducible assumption)) | go_size)); done))); (focus (first | (refine Ints.below ib ?_; (repeat' (first | (with_reducible exact Below.refl _ _) | (with_reducible assumption) | (with_reducible refine Below.alloc ?_ ?_ _) | (with_reducible refine Below.setCell ?_ ?_ _) | (with_reducible refine Below.drew ?_) | (with_reducible refine below_drewN ?_ _) | (apply bthen2; (with_reducible assumption)) | go_size)); done))); rintro e uz ⟨rfl, hbz⟩; have hzz := hbz.size; (try simp only [World.size_alloc, World.size_setCell, World.size_drew, World.heap_drewN] at hzz))))
    all_goals (go_wp2_with fail; go_meet; exact ⟨rfl, rfl, rfl, (by repeat' (first | (with_reducible exact Below.refl _ _) | (with_reducible assumption) | (with_reducible refine Below.alloc ?_ ?_ _) | (with_reducible refine Below.setCell ?_ ?_ _) | (with_reducible refine Below.drew ?_) | (with_reducible refine below_drewN ?_ _) | (apply bthen2; (with_reducible assumption)) | go_size))⟩)
  case rest =>
  obtain ⟨rfl, rfl, rfl, hb⟩ := hcut
  obtain ⟨V27, hV⟩ : ∃ x, x = wc := ⟨_, rfl⟩
  subst hV
  have hz29 := hb.size
  have B30 := B25.below hb
  have B31 := B26.below hb
  have hB : Below w.heap.size w V27 := hB.trans (hb.mono hB.size)
  clear B25 B26 hb
  try go_upto_region 9 with fail
  go_cut [11] (fun s11 wx => ∃ (bx : Nat) (a : Option Addr) (l c lo hi : Nat), s11 = .pointer (some ⟨bx, 0, none⟩) ∧ Box wx bx [.bool n0, .slice a l c] ∧ Seg wx lo hi (.slice a l c) x0 ∧ V27.heap.size ≤ lo ∧ hi ≤ wx.heap.size ∧ V27.heap.size ≤ bx ∧ (bx < lo ∨ hi ≤ bx) ∧ Below V27.heap.size V27 wx)
  case first =>
    have B30_0 := B30.2.1 0 _ rfl
    have B30_1 := B30.2.1 1 _ rfl
    go_wp2_with (first | (go_at_call_of 25 (Value.slice a0 l0 c0); refine (HT0.out _ ?_).mono ?_; (focus (first | (refine Ints.below hx0 ?_; (repeat' (first | (with_reducible exact Below.refl _ _) | (with_reducible assumption) | (with_reducible refine Below.alloc ?_ ?_ _) | (with_reducible refine Below.setCell ?_ ?_ _) | (with_reducible refine Below.drew ?_) | (with_reducible refine below_drewN ?_ _) | (apply bthen2; (with_reducible assumption)) | go_size)); done))); rintro e uz ⟨taz, tlz, tcz, rfl, hoz, hbz⟩; have iz := hoz.ints; obtain ⟨loz, hiz, sgz, hlz, hhz⟩ := Own.segL hoz; (try simp only [World.size_alloc, World.size_setCell, World.size_drew, World.heap_drewN] at hlz); have hzz := hbz.size; (try simp only [World.size_alloc, World.size_setCell, World.size_drew, World.heap_drewN] at hzz); try (have qB := Box.below (by first | exact box_made2 _ _ _ _ | exact box_made4 _ _ _ _ _ _ | (with_reducible assumption)) hbz; (try simp only [World.size_drew, World.heap_drewN] at qB); have qB0 := qB.2.1 0 _ rfl; have qB1 := qB.2.1 1 _ rfl; (try have qB2 := qB.2.1 2 _ rfl); (try have qB3 := qB.2.1 3 _ rfl); have qBf := qB.2.2); try (have qB := Box.below (by first | exact box_made2 _ _ _ _ | exact box_made4 _ _ _ _ _ _ | (with_reducible assumption)) hbz; (try simp only [World.size_drew, World.heap_drewN] at qB); have qB0 := qB.2.1 0 _ rfl; have qB1 := qB.2.1 1 _ rfl; (try have qB2 := qB.2.1 2 _ rfl); (try have qB3 := qB.2.1 3 _ rfl); have qBf := qB.2.2)))
    all_goals (go_wp2_with fail; go_meet; exact ⟨_, taz, tlz, tcz, loz, hiz, rfl, (by first | (with_reducible exact box_made2 _ _ _ _) | (exact Box.set (Box.set (vs := [_, _]) (by first | assumption | exact box_made2 _ _ _ _) 0 (by simp) _) 1 (by simp) _)), (by (repeat' (first | (with_reducible assumption) | (with_reducible refine Seg.set ?_ ?_ _) | (with_reducible refine Seg.alloc ?_ _) | (with_reducible refine Seg.drew ?_))); all_goals (first | omega | (simp; done) | (simp; omega))), (by first | omega | (simp; done) | (simp; omega)), (by first | omega | (simp; done) | (simp; omega)), (by first | omega | (simp; done) | (simp; omega)), (by first | omega | (simp; done) | (simp; omega)), (by repeat' (first | (with_reducible exact Below.refl _ _) | (with_reducible assumption) | (with_reducible refine Below.alloc ?_ ?_ _) | (with_reducible refine Below.setCell ?_ ?_ _) | (with_reducible refine Below.drew ?_) | (with_reducible refine below_drewN ?_ _) | (apply bthen2; (with_reducible assumption)) | go_size))⟩)
  case rest =>
  obtain ⟨bx33, a33_, l33_, c33_, lo33, hi33, rfl, B33, S33, o33a, o33b, o33c, o33d, hb⟩ := hcut
  obtain ⟨V32, hV⟩ : ∃ x, x = wc := ⟨_, rfl⟩
  subst hV
  have hu33 := B33.1
  have hz34 := hb.size
  have B35 := B30.below hb
  have B36 := B31.below hb
  have hB : Below w.heap.size w V32 := hB.trans (hb.mono hB.size)
  clear B30 B31 hb
  try go_upto_region 10 with fail
  go_cut [12] (fun s12 wx => ∃ (bx : Nat) (a : Option Addr) (l c lo hi : Nat), s12 = .pointer (some ⟨bx, 0, none⟩) ∧ Box wx bx [.bool n1, .slice a l c] ∧ Seg wx lo hi (.slice a l c) x1 ∧ V32.heap.size ≤ lo ∧ hi ≤ wx.heap.size ∧ V32.heap.size ≤ bx ∧ (bx < lo ∨ hi ≤ bx) ∧ Below V32.heap.size V32 wx)
  case first =>
    have B36_0 := B36.2.1 0 _ rfl
    have B36_1 := B36.2.1 1 _ rfl
    go_wp2_with (first | (go_at_call_of 25 (Value.slice a1 l1 c1); refine (HT1.out _ ?_).mono ?_; (focus (first | (refine Ints.below hx1 ?_; (repeat' (first | (with_reducible exact Below.refl _ _) | (with_reducible assumption) | (with_reducible refine Below.alloc ?_ ?_ _) | (with_reducible refine Below.setCell ?_ ?_ _) | (with_reducible refine Below.drew ?_) | (with_reducible refine below_drewN ?_ _) | (apply bthen2; (with_reducible assumption)) | go_size)); done))); rintro e uz ⟨taz, tlz, tcz, rfl, hoz, hbz⟩; have iz := hoz.ints; obtain ⟨loz, hiz, sgz, hlz, hhz⟩ := Own.segL hoz; (try simp only [World.size_alloc, World.size_setCell, World.size_drew, World.heap_drewN] at hlz); have hzz := hbz.size; (try simp only [World.size_alloc, World.size_setCell, World.size_drew, World.heap_drewN] at hzz); try (have qB := Box.below (by first | exact box_made2 _ _ _ _ | exact box_made4 _ _ _ _ _ _ | (with_reducible assumption)) hbz; (try simp only [World.size_drew, World.heap_drewN] at qB); have qB0 := qB.2.1 0 _ rfl; have qB1 := qB.2.1 1 _ rfl; (try have qB2 := qB.2.1 2 _ rfl); (try have qB3 := qB.2.1 3 _ rfl); have qBf := qB.2.2); try (have qB := Box.below (by first | exact box_made2 _ _ _ _ | exact box_made4 _ _ _ _ _ _ | (with_reducible assumption)) hbz; (try simp only [World.size_drew, World.heap_drewN] at qB); have qB0 := qB.2.1 0 _ rfl; have qB1 := qB.2.1 1 _ rfl; (try have qB2 := qB.2.1 2 _ rfl); (try have qB3 := qB.2.1 3 _ rfl); have qBf := qB.2.2)))
    all_goals (go_wp2_with fail; go_meet; exact ⟨_, taz, tlz, tcz, loz, hiz, rfl, (by first | (with_reducible exact box_made2 _ _ _ _) | (exact Box.set (Box.set (vs := [_, _]) (by first | assumption | exact box_made2 _ _ _ _) 0 (by simp) _) 1 (by simp) _)), (by (repeat' (first | (with_reducible assumption) | (with_reducible refine Seg.set ?_ ?_ _) | (with_reducible refine Seg.alloc ?_ _) | (with_reducible refine Seg.drew ?_))); all_goals (first | omega | (simp; done) | (simp; omega))), (by first | omega | (simp; done) | (simp; omega)), (by first | omega | (simp; done) | (simp; omega)), (by first | omega | (simp; done) | (simp; omega)), (by first | omega | (simp; done) | (simp; omega)), (by repeat' (first | (with_reducible exact Below.refl _ _) | (with_reducible assumption) | (with_reducible refine Below.alloc ?_ ?_ _) | (with_reducible refine Below.setCell ?_ ?_ _) | (with_reducible refine Below.drew ?_) | (with_reducible refine below_drewN ?_ _) | (apply bthen2; (with_reducible assumption)) | go_size))⟩)
  case rest =>
  obtain ⟨bx38, a38_, l38_, c38_, lo38, hi38, rfl, B38, S38, o38a, o38b, o38c, o38d, hb⟩ := hcut
  obtain ⟨V37, hV⟩ : ∃ x, x = wc := ⟨_, rfl⟩
  subst hV
  have hu38 := B38.1
  have hz39 := hb.size
  have B40 := B35.below hb
  have B41 := B36.below hb
  have B42 := B33.below hb
  have S43 := S33.belowS hb
  have hB : Below w.heap.size w V37 := hB.trans (hb.mono hB.size)
  clear B35 B36 B33 S33 hb
  try go_upto_region 11 with fail
  go_cut [13, 14, 15] (fun s13 s14 s15 wx => s13 = .int .i64 r0 ∧ s14 = .int .i64 r1 ∧ s15 = .bool ok ∧ Below V37.heap.size V37 wx)
  case first =>
    have B42_0 := B42.2.1 0 _ rfl
    have B42_1 := B42.2.1 1 _ rfl
    have B38_0 := B38.2.1 0 _ rfl
    have B38_1 := B38.2.1 1 _ rfl
    go_wp2_with (first | (go_at_call 41; refine (HI.out _ _ _ _ _ _  _ ?_ ?_ ).mono ?_; (focus (first | (refine Ints.below S43.ints ?_; (repeat' (first | (with_reducible exact Below.refl _ _) | (with_reducible assumption) | (with_reducible refine Below.alloc ?_ ?_ _) | (with_reducible refine Below.setCell ?_ ?_ _) | (with_reducible refine Below.drew ?_) | (with_reducible refine below_drewN ?_ _) | (apply bthen2; (with_reducible assumption)) | go_size)); done))); (focus (first | (refine Ints.below S38.ints ?_; (repeat' (first | (with_reducible exact Below.refl _ _) | (with_reducible assumption) | (with_reducible refine Below.alloc ?_ ?_ _) | (with_reducible refine Below.setCell ?_ ?_ _) | (with_reducible refine Below.drew ?_) | (with_reducible refine below_drewN ?_ _) | (apply bthen2; (with_reducible assumption)) | go_size)); done))); rintro e uz ⟨rfl, hbz⟩; have hzz := hbz.size; (try simp only [World.size_alloc, World.size_setCell, World.size_drew, World.heap_drewN] at hzz)))
    all_goals (go_wp2_with fail; go_meet; exact ⟨rfl, rfl, rfl, (by repeat' (first | (with_reducible exact Below.refl _ _) | (with_reducible assumption) | (with_reducible refine Below.alloc ?_ ?_ _) | (with_reducible refine Below.setCell ?_ ?_ _) | (with_reducible refine Below.drew ?_) | (with_reducible refine below_drewN ?_ _) | (apply bthen2; (with_reducible assumption)) | go_size))⟩)
  case rest =>
  obtain ⟨rfl, rfl, rfl, hb⟩ := hcut
  obtain ⟨V44, hV⟩ : ∃ x, x = wc := ⟨_, rfl⟩
  subst hV
  have hz46 := hb.size
  have B47 := B40.below hb
  have B48 := B41.below hb
  have B49 := B42.below hb
  have B50 := B38.below hb
  have S51 := S43.belowS hb
  have S52 := S38.belowS hb
  have hB : Below w.heap.size w V44 := hB.trans (hb.mono hB.size)
  clear B40 B41 B42 B38 S43 S38 hb
  try go_upto_region 14 with fail
  go_region_held3 (fun w' => Below V44.heap.size V44 w' ∧ w'.cell? ⟨bx33, 0, none⟩ = some (.bool n0) ∧ w'.cell? ⟨bx33, 1, none⟩ = some (.slice a33_ l33_ c33_) ∧ w'.cell? ⟨w.heap.size, 0, none⟩ = some (.bool n0) ∧ w'.cell? ⟨w.heap.size, 1, none⟩ = some (.slice a0 l0 c0)) ((refine (fun hbK => And.intro hbK (by exact ⟨(hbK.cell (p := ⟨bx33, 0, none⟩) (B49).1).trans (B49.2.1 0 _ rfl), (hbK.cell (p := ⟨bx33, 1, none⟩) (B49).1).trans (B49.2.1 1 _ rfl), (hbK.cell (p := ⟨w.heap.size, 0, none⟩) (B47).1).trans (B47.2.1 0 _ rfl), (hbK.cell (p := ⟨w.heap.size, 1, none⟩) (B47).1).trans (B47.2.1 1 _ rfl)⟩)) ?_; repeat' (first | (with_reducible exact Below.refl _ _) | (with_reducible assumption) | (with_reducible refine Below.alloc ?_ ?_ _) | (with_reducible refine Below.setCell ?_ ?_ _) | (with_reducible refine Below.drew ?_) | (with_reducible refine below_drewN ?_ _) | (apply bthen2; (with_reducible assumption)) | go_size))) ((first | (go_at_call_of 25 (Value.slice a0 l0 c0); refine (HT0.out _ ?_).mono ?_; (focus (first | (refine Ints.below hx0 ?_; (repeat' (first | (with_reducible exact Below.refl _ _) | (with_reducible assumption) | (with_reducible refine Below.alloc ?_ ?_ _) | (with_reducible refine Below.setCell ?_ ?_ _) | (with_reducible refine Below.drew ?_) | (with_reducible refine below_drewN ?_ _) | (apply bthen2; (with_reducible assumption)) | go_size)); done))); rintro e ux ⟨tax, tlx, tcx, rfl, hox, hbx⟩; have ix := hox.ints; obtain ⟨lox, hix, sgx, hlx, hhx⟩ := Own.segL hox; (try simp only [World.size_alloc, World.size_setCell, World.size_drew, World.heap_drewN] at hlx); have hzx := hbx.size; (try simp only [World.size_alloc, World.size_setCell, World.size_drew, World.heap_drewN] at hzx); try (have qB := Box.below (by first | exact box_made2 _ _ _ _ | exact box_made4 _ _ _ _ _ _ | (with_reducible assumption)) hbx; (try simp only [World.size_drew, World.heap_drewN] at qB); have qB0 := qB.2.1 0 _ rfl; have qB1 := qB.2.1 1 _ rfl; (try have qB2 := qB.2.1 2 _ rfl); (try have qB3 := qB.2.1 3 _ rfl); have qBf := qB.2.2)) | (go_at_call 27; refine (eqWhole_same _ _ _ _ _ _ _ x0 _ ?_ ?_).mono ?_; (focus (first | (refine Ints.below S51.ints ?_; (repeat' (first | (with_reducible exact Below.refl _ _) | (with_reducible assumption) | (with_reducible refine Below.alloc ?_ ?_ _) | (with_reducible refine Below.setCell ?_ ?_ _) | (with_reducible refine Below.drew ?_) | (with_reducible refine below_drewN ?_ _) | (apply bthen2; (with_reducible assumption)) | go_size)); done))); (focus (first | (refine Ints.below ix ?_; (repeat' (first | (with_reducible exact Below.refl _ _) | (with_reducible assumption) | (with_reducible refine Below.alloc ?_ ?_ _) | (with_reducible refine Below.setCell ?_ ?_ _) | (with_reducible refine Below.drew ?_) | (with_reducible refine below_drewN ?_ _) | (apply bthen2; (with_reducible assumption)) | go_size)); done))); rintro e V53 ⟨rfl, hbz⟩)))
  have hb : Below V44.heap.size V44 V53 := (by repeat' (first | (with_reducible exact Below.refl _ _) | (with_reducible assumption) | (with_reducible refine Below.alloc ?_ ?_ _) | (with_reducible refine Below.setCell ?_ ?_ _) | (with_reducible refine Below.drew ?_) | (with_reducible refine below_drewN ?_ _) | (apply bthen2; (with_reducible assumption)) | go_size))
  have hz54 := hb.size
  have B55 := B47.below hb
  have B56 := B48.below hb
  have B57 := B49.below hb
  have B58 := B50.below hb
  have S59 := S51.belowS hb
  have S60 := S52.belowS hb
  have hB : Below w.heap.size w V53 := hB.trans (hb.mono hB.size)
  clear B47 B48 B49 B50 S51 S52 hb
  try go_upto_region 16 with fail
  go_region_held3 (fun w' => Below V53.heap.size V53 w' ∧ w'.cell? ⟨bx38, 0, none⟩ = some (.bool n1) ∧ w'.cell? ⟨bx38, 1, none⟩ = some (.slice a38_ l38_ c38_) ∧ w'.cell? ⟨w.heap.size + 1, 0, none⟩ = some (.bool n1) ∧ w'.cell? ⟨w.heap.size + 1, 1, none⟩ = some (.slice a1 l1 c1)) ((refine (fun hbK => And.intro hbK (by exact ⟨(hbK.cell (p := ⟨bx38, 0, none⟩) (B58).1).trans (B58.2.1 0 _ rfl), (hbK.cell (p := ⟨bx38, 1, none⟩) (B58).1).trans (B58.2.1 1 _ rfl), (hbK.cell (p := ⟨w.heap.size + 1, 0, none⟩) (B56).1).trans (B56.2.1 0 _ rfl), (hbK.cell (p := ⟨w.heap.size + 1, 1, none⟩) (B56).1).trans (B56.2.1 1 _ rfl)⟩)) ?_; repeat' (first | (with_reducible exact Below.refl _ _) | (with_reducible assumption) | (with_reducible refine Below.alloc ?_ ?_ _) | (with_reducible refine Below.setCell ?_ ?_ _) | (with_reducible refine Below.drew ?_) | (with_reducible refine below_drewN ?_ _) | (apply bthen2; (with_reducible assumption)) | go_size))) ((first | (go_at_call_of 25 (Value.slice a1 l1 c1); refine (HT1.out _ ?_).mono ?_; (focus (first | (refine Ints.below hx1 ?_; (repeat' (first | (with_reducible exact Below.refl _ _) | (with_reducible assumption) | (with_reducible refine Below.alloc ?_ ?_ _) | (with_reducible refine Below.setCell ?_ ?_ _) | (with_reducible refine Below.drew ?_) | (with_reducible refine below_drewN ?_ _) | (apply bthen2; (with_reducible assumption)) | go_size)); done))); rintro e ux ⟨tax, tlx, tcx, rfl, hox, hbx⟩; have ix := hox.ints; obtain ⟨lox, hix, sgx, hlx, hhx⟩ := Own.segL hox; (try simp only [World.size_alloc, World.size_setCell, World.size_drew, World.heap_drewN] at hlx); have hzx := hbx.size; (try simp only [World.size_alloc, World.size_setCell, World.size_drew, World.heap_drewN] at hzx); try (have qB := Box.below (by first | exact box_made2 _ _ _ _ | exact box_made4 _ _ _ _ _ _ | (with_reducible assumption)) hbx; (try simp only [World.size_drew, World.heap_drewN] at qB); have qB0 := qB.2.1 0 _ rfl; have qB1 := qB.2.1 1 _ rfl; (try have qB2 := qB.2.1 2 _ rfl); (try have qB3 := qB.2.1 3 _ rfl); have qBf := qB.2.2)) | (go_at_call 27; refine (eqWhole_same _ _ _ _ _ _ _ x1 _ ?_ ?_).mono ?_; (focus (first | (refine Ints.below S60.ints ?_; (repeat' (first | (with_reducible exact Below.refl _ _) | (with_reducible assumption) | (with_reducible refine Below.alloc ?_ ?_ _) | (with_reducible refine Below.setCell ?_ ?_ _) | (with_reducible refine Below.drew ?_) | (with_reducible refine below_drewN ?_ _) | (apply bthen2; (with_reducible assumption)) | go_size)); done))); (focus (first | (refine Ints.below ix ?_; (repeat' (first | (with_reducible exact Below.refl _ _) | (with_reducible assumption) | (with_reducible refine Below.alloc ?_ ?_ _) | (with_reducible refine Below.setCell ?_ ?_ _) | (with_reducible refine Below.drew ?_) | (with_reducible refine below_drewN ?_ _) | (apply bthen2; (with_reducible assumption)) | go_size)); done))); rintro e V61 ⟨rfl, hbz⟩)))
  have hb : Below V53.heap.size V53 V61 := (by repeat' (first | (with_reducible exact Below.refl _ _) | (with_reducible assumption) | (with_reducible refine Below.alloc ?_ ?_ _) | (with_reducible refine Below.setCell ?_ ?_ _) | (with_reducible refine Below.drew ?_) | (with_reducible refine below_drewN ?_ _) | (apply bthen2; (with_reducible assumption)) | go_size))
  have hz62 := hb.size
  have B63 := B55.below hb
  have B64 := B56.below hb
  have B65 := B57.below hb
  have B66 := B58.below hb
  have S67 := S59.belowS hb
  have S68 := S60.belowS hb
  have hB : Below w.heap.size w V61 := hB.trans (hb.mono hB.size)
  clear B55 B56 B57 B58 S59 S60 hb
  go_wp2_with fail
  go_ret
  exact gives rfl hB

end Go.Proofs.Ytopdeoicglkbkaa
