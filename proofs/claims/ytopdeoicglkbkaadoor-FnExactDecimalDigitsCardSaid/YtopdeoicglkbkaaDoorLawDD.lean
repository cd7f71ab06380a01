import Derived.Test.YtopdeoicglkbkaaDoorTxt4
import Derived.Test.YtopdeoicglkbkaaDoorBox
set_option linter.unusedSimpArgs false
set_option linter.unusedVariables false
namespace Go.Proofs.YtopdeoicglkbkaaDoor
open Go.RowKit

set_option maxRecDepth 100000 in
set_option maxHeartbeats 4000000 in
theorem walk_FnExactDecimalDigits (n0 : Bool) (a0 : Option Addr) (l0 c0 : Nat) (x0 : List Int) (w : World) (htab : ∀ W, Below w.heap.size w W → Lib.TabIs Tryd.prog W "internal/strconv.uint64pow10" .u64 Lib.pow10Tab) (hx0 : Ints w (.slice a0 l0 c0) x0) : Calls Tryd.prog 3 #[.agg #[.bool n0, .slice a0 l0 c0]] w (Gives (.bool true) w) := by
  obtain ⟨L0, hL0⟩ : ∃ L, szL x0 1048576 = L := ⟨_, rfl⟩
  have HZ0 := Lib.hid (fun W h => szWhole_any n0 a0 l0 c0 x0 1048576 (by decide) (by decide) W h)
  rw [hL0] at HZ0
  by_cases g0 : L0 < 0
  · clear hL0
    go_enter Tryd.func3, Tryd.ntmps3
    go_upto_region 2 with fail
    refine name_world (fun V0 hV0 => ?_)
    have B1 : Box V0 (w.heap.size) [.bool n0, .slice a0 l0 c0] := by subst hV0; exact box_two (by first | (simp; done) | (simp; omega)) (by simp [go_sem]) (by simp [go_sem]) (fun o => by simp [go_sem])
    have hB : Below w.heap.size w V0 := by subst hV0; exact (by repeat' (first | (with_reducible exact Below.refl _ _) | (with_reducible assumption) | (with_reducible refine Below.alloc ?_ ?_ _) | (with_reducible refine Below.setCell ?_ ?_ _) | (with_reducible refine Below.drew ?_) | (with_reducible refine below_drewN ?_ _) | (apply bthen2; (with_reducible assumption)) | go_size))
    have hV1 : V0.heap.size ≤ w.heap.size + 1 ∧ w.heap.size + 1 ≤ V0.heap.size := by subst hV0; simp
    clear hV0
    have B1_0 := B1.2.1 0 _ rfl
    have B1_1 := B1.2.1 1 _ rfl
    go_wp2_with fail
    refine (HZ0.out _ ?_).mono ?_
    · exact Ints.below hx0 hB
    rintro e V2 ⟨rfl, hb⟩
    clear B1_0 B1_1
    have hz3 := hb.size
    have B4 := B1.below hb
    have hB : Below w.heap.size w V2 := hB.trans (hb.mono hB.size)
    clear B1 hb
    go_wp2
    go_ret
    exact gives rfl hB
  have hq0 := szL_ok (xs := x0) (left := 1048576) (by decide) (by decide) (by rw [hL0]; exact g0)
  rw [hL0] at hq0
  have HT0 := Lib.hid (fun W h => toWhole_any n0 a0 l0 c0 x0 W h hq0.2)
  have HS := Lib.hid (fun p0 q0 r0 W h0 => sDecimalDigits_any n0 p0 q0 r0 x0 W h0)
  have HI := Lib.hid (fun p0 q0 r0 W (hW : Below w.heap.size w W) h0 => DecimalDigits_any n0 p0 q0 r0 x0 W h0 (fun W2 h2 => htab W2 (hW.trans (h2.mono hW.size))))
  obtain ⟨r0, ok, hR⟩ : ∃ r0 ok, ddV n0 x0 = (r0, ok) := ⟨_, _, rfl⟩
  rw [hR] at HS HI
  dsimp only at HS HI
  clear hR
  have hn0 := hq0.2
  clear hL0 hq0
  go_enter Tryd.func3, Tryd.ntmps3
  go_upto_region 2 with fail
  refine name_world (fun V0 hV0 => ?_)
  have B5 : Box V0 (w.heap.size) [.bool n0, .slice a0 l0 c0] := by subst hV0; exact box_two (by first | (simp; done) | (simp; omega)) (by simp [go_sem]) (by simp [go_sem]) (fun o => by simp [go_sem])
  have hB : Below w.heap.size w V0 := by subst hV0; exact (by repeat' (first | (with_reducible exact Below.refl _ _) | (with_reducible assumption) | (with_reducible refine Below.alloc ?_ ?_ _) | (with_reducible refine Below.setCell ?_ ?_ _) | (with_reducible refine Below.drew ?_) | (with_reducible refine below_drewN ?_ _) | (apply bthen2; (with_reducible assumption)) | go_size))
  have hV1 : V0.heap.size ≤ w.heap.size + 1 ∧ w.heap.size + 1 ≤ V0.heap.size := by subst hV0; simp
  clear hV0
  have B5_0 := B5.2.1 0 _ rfl
  have B5_1 := B5.2.1 1 _ rfl
  go_wp2_with fail
  refine (HZ0.out _ ?_).mono ?_
  · exact Ints.below hx0 hB
  rintro e V6 ⟨rfl, hb⟩
  clear B5_0 B5_1
  have hz7 := hb.size
  have B8 := B5.below hb
  have hB : Below w.heap.size w V6 := hB.trans (hb.mono hB.size)
  clear B5 hb
  try go_upto_region 5 with fail
  go_cut [4, 5] (fun s4 s5 wx => s4 = .int .i64 r0 ∧ s5 = .bool ok ∧ Below V6.heap.size V6 wx)
  case first =>
    have B8_0 := B8.2.1 0 _ rfl
    have B8_1 := B8.2.1 1 _ rfl
    go_wp2_with (first | (go_at_call 7; refine (HT0.out _ ?_).mono ?_; (focus (first | (refine Ints.below hx0 ?_; (repeat' (first | (with_reducible exact Below.refl _ _) | (with_reducible assumption) | (with_reducible refine Below.alloc ?_ ?_ _) | (with_reducible refine Below.setCell ?_ ?_ _) | (with_reducible refine Below.drew ?_) | (with_reducible refine below_drewN ?_ _) | (apply bthen2; (with_reducible assumption)) | go_size)); done))); rintro e ua ⟨taa, tla, tca, rfl, hoa, hba⟩; have ia := hoa.ints; obtain ⟨loa, hia, sga, hla, hha⟩ := Own.segL hoa; (try simp only [World.size_alloc, World.size_setCell, World.size_drew, World.heap_drewN] at hla); have hza := hba.size; (try simp only [World.size_alloc, World.size_setCell, World.size_drew, World.heap_drewN] at hza); try (have qB := Box.below (by first | exact box_made2 _ _ _ _ | exact box_made4 _ _ _ _ _ _ | (with_reducible assumption)) hba; (try simp only [World.size_drew, World.heap_drewN] at qB); have qB0 := qB.2.1 0 _ rfl; have qB1 := qB.2.1 1 _ rfl; (try have qB2 := qB.2.1 2 _ rfl); (try have qB3 := qB.2.1 3 _ rfl); have qBf := qB.2.2)) | (go_at_call 6; refine (HS.out _ _ _  _ ?_ ).mono ?_; (focus (first | (refine Ints.below ia ?_; (repeat' (first | (with_reducible exact Below.refl _ _) | (with_reducible assumption) | (with_reducible refine Below.alloc ?_ ?_ _) | (with_reducible refine Below.setCell ?_ ?_ _) | (with_reducible refine Below.drew ?_) | (with_reducible refine below_drewN ?_ _) | (apply bthen2; (with_reducible assumption)) | go_size)); done))); rintro e uz ⟨rfl, hbz⟩; have hzz := hbz.size; (try simp only [World.size_alloc, World.size_setCell, World.size_drew, World.heap_drewN] at hzz)))
    all_goals (go_wp2_with fail; go_meet; exact ⟨rfl, rfl, (by repeat' (first | (with_reducible exact Below.refl _ _) | (with_reducible assumption) | (with_reducible refine Below.alloc ?_ ?_ _) | (with_reducible refine Below.setCell ?_ ?_ _) | (with_reducible refine Below.drew ?_) | (with_reducible refine below_drewN ?_ _) | (apply bthen2; (with_reducible assumption)) | go_size))⟩)
  case rest =>
  obtain ⟨rfl, rfl, hb⟩ := hcut
  obtain ⟨V9, hV⟩ : ∃ x, x = wc := ⟨_, rfl⟩
  subst hV
  have hz11 := hb.size
  have B12 := B8.below hb
  have hB : Below w.heap.size w V9 := hB.trans (hb.mono hB.size)
  clear B8 hb
  try go_upto_region 6 with fail
  go_cut [6] (fun s6 wx => ∃ (bx : Nat) (a : Option Addr) (l c lo hi : Nat), s6 = .pointer (some ⟨bx, 0, none⟩) ∧ Box wx bx [.bool n0, .slice a l c] ∧ Seg wx lo hi (.slice a l c) x0 ∧ V9.heap.size ≤ lo ∧ hi ≤ wx.heap.size ∧ V9.heap.size ≤ bx ∧ (bx < lo ∨ hi ≤ bx) ∧ Below V9.heap.size V9 wx)
  case first =>
    have B12_0 := B12.2.1 0 _ rfl
    have B12_1 := B12.2.1 1 _ rfl
    go_wp2_with (first | (go_at_call 7; refine (HT0.out _ ?_).mono ?_; (focus (first | (refine Ints.below hx0 ?_; (repeat' (first | (with_reducible exact Below.refl _ _) | (with_reducible assumption) | (with_reducible refine Below.alloc ?_ ?_ _) | (with_reducible refine Below.setCell ?_ ?_ _) | (with_reducible refine Below.drew ?_) | (with_reducible refine below_drewN ?_ _) | (apply bthen2; (with_reducible assumption)) | go_size)); done))); rintro e uz ⟨taz, tlz, tcz, rfl, hoz, hbz⟩; have iz := hoz.ints; obtain ⟨loz, hiz, sgz, hlz, hhz⟩ := Own.segL hoz; (try simp only [World.size_alloc, World.size_setCell, World.size_drew, World.heap_drewN] at hlz); have hzz := hbz.size; (try simp only [World.size_alloc, World.size_setCell, World.size_drew, World.heap_drewN] at hzz); try (have qB := Box.below (by first | exact box_made2 _ _ _ _ | exact box_made4 _ _ _ _ _ _ | (with_reducible assumption)) hbz; (try simp only [World.size_drew, World.heap_drewN] at qB); have qB0 := qB.2.1 0 _ rfl; have qB1 := qB.2.1 1 _ rfl; (try have qB2 := qB.2.1 2 _ rfl); (try have qB3 := qB.2.1 3 _ rfl); have qBf := qB.2.2); try (have qB := Box.below (by first | exact box_made2 _ _ _ _ | exact box_made4 _ _ _ _ _ _ | (with_reducible assumption)) hbz; (try simp only [World.size_drew, World.heap_drewN] at qB); have qB0 := qB.2.1 0 _ rfl; have qB1 := qB.2.1 1 _ rfl; (try have qB2 := qB.2.1 2 _ rfl); (try have qB3 := qB.2.1 3 _ rfl); have qBf := qB.2.2)))
    all_goals (go_wp2_with fail; go_meet; exact ⟨_, taz, tlz, tcz, loz, hiz, rfl, (by first | (with_reducible exact box_made2 _ _ _ _) | (exact Box.set (Box.set (vs := [_, _]) (by first | assumption | exact box_made2 _ _ _ _) 0 (by simp) _) 1 (by simp) _)), (by (repeat' (first | (with_reducible assumption) | (with_reducible refine Seg.set ?_ ?_ _) | (with_reducible refine Seg.alloc ?_ _) | (with_reducible refine Seg.drew ?_))); all_goals (first | omega | (simp; done) | (simp; omega))), (by first | omega | (simp; done) | (simp; omega)), (by first | omega | (simp; done) | (simp; omega)), (by first | omega | (simp; done) | (simp; omega)), (by first | omega | (simp; done) | (simp; omega)), (by repeat' (first | (with_reducible exact Below.refl _ _) | (with_reducible assumption) | (with_reducible refine Below.alloc ?_ ?_ _) | (with_reducible refine Below.setCell ?_ ?_ _) | (with_reducible refine Below.drew ?_) | (with_reducible refine below_drewN ?_ _) | (apply bthen2; (with_reducible assumption)) | go_size))⟩)
  case rest =>
  obtain ⟨bx14, a14_, l14_, c14_, lo14, hi14, rfl, B14, S14, o14a, o14b, o14c, o14d, hb⟩ := hcut
  obtain ⟨V13, hV⟩ : ∃ x, x = wc := ⟨_, rfl⟩
  subst hV
  have hu14 := B14.1
  have hz15 := hb.size
  have B16 := B12.below hb
  have hB : Below w.heap.size w V13 := hB.trans (hb.mono hB.size)
  clear B12 hb
  try go_upto_region 7 with fail
  go_cut [7, 8] (fun s7 s8 wx => s7 = .int .i64 r0 ∧ s8 = .bool ok ∧ Below V13.heap.size V13 wx)
  case first =>
    have B14_0 := B14.2.1 0 _ rfl
    have B14_1 := B14.2.1 1 _ rfl
    go_wp2_with (first | (go_at_call 8; refine (HI.out _ _ _  _ ?_ ?_ ).mono ?_; (focus (repeat' (first | (with_reducible exact Below.refl _ _) | (with_reducible assumption) | (with_reducible refine Below.alloc ?_ ?_ _) | (with_reducible refine Below.setCell ?_ ?_ _) | (with_reducible refine Below.drew ?_) | (with_reducible refine below_drewN ?_ _) | (apply bthen2; (with_reducible assumption)) | go_size))); (focus (first | (refine Ints.below S14.ints ?_; (repeat' (first | (with_reducible exact Below.refl _ _) | (with_reducible assumption) | (with_reducible refine Below.alloc ?_ ?_ _) | (with_reducible refine Below.setCell ?_ ?_ _) | (with_reducible refine Below.drew ?_) | (with_reducible refine below_drewN ?_ _) | (apply bthen2; (with_reducible assumption)) | go_size)); done))); rintro e uz ⟨rfl, hbz⟩; have hzz := hbz.size; (try simp only [World.size_alloc, World.size_setCell, World.size_drew, World.heap_drewN] at hzz)))
    all_goals (go_wp2_with fail; go_meet; exact ⟨rfl, rfl, (by repeat' (first | (with_reducible exact Below.refl _ _) | (with_reducible assumption) | (with_reducible refine Below.alloc ?_ ?_ _) | (with_reducible refine Below.setCell ?_ ?_ _) | (with_reducible refine Below.drew ?_) | (with_reducible refine below_drewN ?_ _) | (apply bthen2; (with_reducible assumption)) | go_size))⟩)
  case rest =>
  obtain ⟨rfl, rfl, hb⟩ := hcut
  obtain ⟨V17, hV⟩ : ∃ x, x = wc := ⟨_, rfl⟩
  subst hV
  have hz19 := hb.size
  have B20 := B16.below hb
  have B21 := B14.below hb
  have S22 := S14.belowS hb
  have hB : Below w.heap.size w V17 := hB.trans (hb.mono hB.size)
  clear B16 B14 S14 hb
  try go_upto_region 10 with fail
  go_region_held3 (fun w' => Below V17.heap.size V17 w' ∧ w'.cell? ⟨bx14, 0, none⟩ = some (.bool n0) ∧ w'.cell? ⟨bx14, 1, none⟩ = some (.slice a14_ l14_ c14_) ∧ w'.cell? ⟨w.heap.size, 0, none⟩ = some (.bool n0) ∧ w'.cell? ⟨w.heap.size, 1, none⟩ = some (.slice a0 l0 c0)) ((refine (fun hbK => And.intro hbK (by exact ⟨(hbK.cell (p := ⟨bx14, 0, none⟩) (B21).1).trans (B21.2.1 0 _ rfl), (hbK.cell (p := ⟨bx14, 1, none⟩) (B21).1).trans (B21.2.1 1 _ rfl), (hbK.cell (p := ⟨w.heap.size, 0, none⟩) (B20).1).trans (B20.2.1 0 _ rfl), (hbK.cell (p := ⟨w.heap.size, 1, none⟩) (B20).1).trans (B20.2.1 1 _ rfl)⟩)) ?_; repeat' (first | (with_reducible exact Below.refl _ _) | (with_reducible assumption) | (with_reducible refine Below.alloc ?_ ?_ _) | (with_reducible refine Below.setCell ?_ ?_ _) | (with_reducible refine Below.drew ?_) | (with_reducible refine below_drewN ?_ _) | (apply bthen2; (with_reducible assumption)) | go_size))) ((first | (go_at_call 7; refine (HT0.out _ ?_).mono ?_; (focus (first | (refine Ints.below hx0 ?_; (repeat' (first | (with_reducible exact Below.refl _ _) | (with_reducible assumption) | (with_reducible refine Below.alloc ?_ ?_ _) | (with_reducible refine Below.setCell ?_ ?_ _) | (with_reducible refine Below.drew ?_) | (with_reducible refine below_drewN ?_ _) | (apply bthen2; (with_reducible assumption)) | go_size)); done))); rintro e ux ⟨tax, tlx, tcx, rfl, hox, hbx⟩; have ix := hox.ints; obtain ⟨lox, hix, sgx, hlx, hhx⟩ := Own.segL hox; (try simp only [World.size_alloc, World.size_setCell, World.size_drew, World.heap_drewN] at hlx); have hzx := hbx.size; (try simp only [World.size_alloc, World.size_setCell, World.size_drew, World.heap_drewN] at hzx); try (have qB := Box.below (by first | exact box_made2 _ _ _ _ | exact box_made4 _ _ _ _ _ _ | (with_reducible assumption)) hbx; (try simp only [World.size_drew, World.heap_drewN] at qB); have qB0 := qB.2.1 0 _ rfl; have qB1 := qB.2.1 1 _ rfl; (try have qB2 := qB.2.1 2 _ rfl); (try have qB3 := qB.2.1 3 _ rfl); have qBf := qB.2.2)) | (go_at_call 9; refine (eqWhole_same _ _ _ _ _ _ _ x0 _ ?_ ?_).mono ?_; (focus (first | (refine Ints.below S22.ints ?_; (repeat' (first | (with_reducible exact Below.refl _ _) | (with_reducible assumption) | (with_reducible refine Below.alloc ?_ ?_ _) | (with_reducible refine Below.setCell ?_ ?_ _) | (with_reducible refine Below.drew ?_) | (with_reducible refine below_drewN ?_ _) | (apply bthen2; (with_reducible assumption)) | go_size)); done))); (focus (first | (refine Ints.below ix ?_; (repeat' (first | (with_reducible exact Below.refl _ _) | (with_reducible assumption) | (with_reducible refine Below.alloc ?_ ?_ _) | (with_reducible refine Below.setCell ?_ ?_ _) | (with_reducible refine Below.drew ?_) | (with_reducible refine below_drewN ?_ _) | (apply bthen2; (with_reducible assumption)) | go_size)); done))); rintro e V23 ⟨rfl, hbz⟩)))
  have hb : Below V17.heap.size V17 V23 := (by repeat' (first | (with_reducible exact Below.refl _ _) | (with_reducible assumption) | (with_reducible refine Below.alloc ?_ ?_ _) | (with_reducible refine Below.setCell ?_ ?_ _) | (with_reducible refine Below.drew ?_) | (with_reducible refine below_drewN ?_ _) | (apply bthen2; (with_reducible assumption)) | go_size))
  have hz24 := hb.size
  have B25 := B20.below hb
  have B26 := B21.below hb
  have S27 := S22.belowS hb
  have hB : Below w.heap.size w V23 := hB.trans (hb.mono hB.size)
  clear B20 B21 S22 hb
  go_wp2_with fail
  go_ret
  exact gives rfl hB

end Go.Proofs.YtopdeoicglkbkaaDoor
