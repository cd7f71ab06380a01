import Derived.Test.YtopdeoicglkbkaaLawW3
import Derived.Test.YtopdeoicglkbkaaBox
set_option linter.unusedSimpArgs false
set_option linter.unusedVariables false
namespace Go.Proofs.Ytopdeoicglkbkaa
open Go.RowKit

theorem gw_len (n1 n2 : Bool) (xs ys : List Int) : (gw n1 xs n2 ys).2.2.length ≤ 1000000 := by
  unfold gw
  split
  · rename_i h
    simp only [Bool.and_eq_true] at h
    obtain ⟨-, kx, -⟩ := whB_can h.1
    obtain ⟨-, ky, -⟩ := whB_can h.2
    split <;> simp <;> omega
  · simp
set_option maxRecDepth 100000 in
set_option maxHeartbeats 4000000 in
theorem walk_FnExactGreaterWhole (n0 : Bool) (a0 : Option Addr) (l0 c0 : Nat) (x0 : List Int) (n1 : Bool) (a1 : Option Addr) (l1 c1 : Nat) (x1 : List Int) (w : World) (hx0 : Ints w (.slice a0 l0 c0) x0) (hx1 : Ints w (.slice a1 l1 c1) x1) : Calls Try.prog 5 #[.agg #[.bool n0, .slice a0 l0 c0], .agg #[.bool n1, .slice a1 l1 c1]] w (Gives (.bool true) w) := by
  obtain ⟨L0, hL0⟩ : ∃ L, szL x0 1048576 = L := ⟨_, rfl⟩
  have HZ0 := Lib.hid (fun W h => szWhole_any n0 a0 l0 c0 x0 1048576 (by decide) (by decide) W h)
  rw [hL0] at HZ0
  by_cases g0 : L0 < 0
  · clear hL0
    go_enter Try.func5, Try.ntmps5
    go_upto_region 2 with fail
    refine name_world (fun V0 hV0 => ?_)
    have B1 : Box V0 (w.heap.size) [.bool n0, .slice a0 l0 c0] := by subst hV0; exact box_two (by first | (simp; done) | (simp; omega)) (by simp [go_sem]) (by simp [go_sem]) (fun o => by simp [go_sem])
    have B2 : Box V0 (w.heap.size + 1) [.bool n1, .slice a1 l1 c1] := by subst hV0; exact box_two (by first | (simp; done) | (simp; omega)) (by simp [go_sem]) (by simp [go_sem]) (fun o => by simp [go_sem])
    have hB : Below w.heap.size w V0 := by subst hV0; exact (by repeat' (first | (with_reducible exact Below.refl _ _) | (with_reducible assumption) | (with_reducible refine Below.alloc ?_ ?_ _) | (with_reducible refine Below.setCell ?_ ?_ _) | (with_reducible refine Below.drew ?_) | (with_reducible refine below_drewN ?_ _) | (apply bthen2; (with_reducible assumption)) | go_size))
    have hV1 : V0.heap.size = w.heap.size + 1 + 1 := by subst hV0; simp
    clear hV0
    have B1_0 := B1.2.1 0 _ rfl
    have B1_1 := B1.2.1 1 _ rfl
    go_wp2_with fail
    refine (HZ0.out _ ?_).mono ?_
    · exact Ints.below hx0 hB
    rintro e V3 ⟨rfl, hb⟩
    clear B1_0 B1_1
    have hz4 := hb.size
    have B5 := B1.below hb
    have B6 := B2.below hb
    have hB : Below w.heap.size w V3 := hB.trans (hb.mono hB.size)
    clear B1 B2 hb
    go_wp2
    go_ret
    exact gives rfl hB
  have hq0 := szL_ok (xs := x0) (left := 1048576) (by decide) (by decide) (by rw [hL0]; exact g0)
  rw [hL0] at hq0
  obtain ⟨L1, hL1⟩ : ∃ L, szL x1 L0 = L := ⟨_, rfl⟩
  have HZ1 := Lib.hid (fun W h => szWhole_any n1 a1 l1 c1 x1 L0 (by omega) hq0.1 W h)
  rw [hL1] at HZ1
  by_cases g1 : L1 < 0
  · clear hL0 hL1
    go_enter Try.func5, Try.ntmps5
    go_upto_region 2 with fail
    refine name_world (fun V0 hV0 => ?_)
    have B7 : Box V0 (w.heap.size) [.bool n0, .slice a0 l0 c0] := by subst hV0; exact box_two (by first | (simp; done) | (simp; omega)) (by simp [go_sem]) (by simp [go_sem]) (fun o => by simp [go_sem])
    have B8 : Box V0 (w.heap.size + 1) [.bool n1, .slice a1 l1 c1] := by subst hV0; exact box_two (by first | (simp; done) | (simp; omega)) (by simp [go_sem]) (by simp [go_sem]) (fun o => by simp [go_sem])
    have hB : Below w.heap.size w V0 := by subst hV0; exact (by repeat' (first | (with_reducible exact Below.refl _ _) | (with_reducible assumption) | (with_reducible refine Below.alloc ?_ ?_ _) | (with_reducible refine Below.setCell ?_ ?_ _) | (with_reducible refine Below.drew ?_) | (with_reducible refine below_drewN ?_ _) | (apply bthen2; (with_reducible assumption)) | go_size))
    have hV1 : V0.heap.size = w.heap.size + 1 + 1 := by subst hV0; simp
    clear hV0
    have B7_0 := B7.2.1 0 _ rfl
    have B7_1 := B7.2.1 1 _ rfl
    go_wp2_with fail
    refine (HZ0.out _ ?_).mono ?_
    · exact Ints.below hx0 hB
    rintro e V9 ⟨rfl, hb⟩
    clear B7_0 B7_1
    have hz10 := hb.size
    have B11 := B7.below hb
    have B12 := B8.below hb
    have hB : Below w.heap.size w V9 := hB.trans (hb.mono hB.size)
    clear B7 B8 hb
    have B12_0 := B12.2.1 0 _ rfl
    have B12_1 := B12.2.1 1 _ rfl
    go_wp2_with fail
    refine (HZ1.out _ ?_).mono ?_
    · exact Ints.below hx1 hB
    rintro e V13 ⟨rfl, hb⟩
    clear B12_0 B12_1
    have hz14 := hb.size
    have B15 := B11.below hb
    have B16 := B12.below hb
    have hB : Below w.heap.size w V13 := hB.trans (hb.mono hB.size)
    clear B11 B12 hb
    go_wp2
    go_ret
    exact gives rfl hB
  have hq1 := szL_ok (xs := x1) (left := L0) (by omega) hq0.1 (by rw [hL1]; exact g1)
  rw [hL1] at hq1
  have HT0 := Lib.hid (fun W h => toWhole_any n0 a0 l0 c0 x0 W h hq0.2)
  have HT1 := Lib.hid (fun W h => toWhole_any n1 a1 l1 c1 x1 W h hq1.2)
  have HS := Lib.hid (fun p0 q0 r0 p1 q1 r1 W h0 h1 => sGreaterWhole_any n0 n1 p0 p1 q0 r0 q1 r1 x0 x1 W h0 h1)
  have HI := Lib.hid (fun p0 q0 r0 p1 q1 r1 W h0 h1 => GreaterWhole_any n0 n1 p0 p1 q0 r0 q1 r1 x0 x1 W h0 h1)
  have hG := gw_len n0 n1 x0 x1
  obtain ⟨ok, rn, RX, hR⟩ : ∃ ok rn RX, gw n0 x0 n1 x1 = (ok, rn, RX) := ⟨_, _, _, rfl⟩
  rw [hR] at HS HI hG
  dsimp only at HS HI hG
  clear hR
  have hn0 := hq0.2
  have hn1 := hq1.2
  clear hL0 hL1 hq0 hq1
  go_enter Try.func5, Try.ntmps5
  go_upto_region 2 with fail
  refine name_world (fun V0 hV0 => ?_)
  have B17 : Box V0 (w.heap.size) [.bool n0, .slice a0 l0 c0] := by subst hV0; exact box_two (by first | (simp; done) | (simp; omega)) (by simp [go_sem]) (by simp [go_sem]) (fun o => by simp [go_sem])
  have B18 : Box V0 (w.heap.size + 1) [.bool n1, .slice a1 l1 c1] := by subst hV0; exact box_two (by first | (simp; done) | (simp; omega)) (by simp [go_sem]) (by simp [go_sem]) (fun o => by simp [go_sem])
  have hB : Below w.heap.size w V0 := by subst hV0; exact (by repeat' (first | (with_reducible exact Below.refl _ _) | (with_reducible assumption) | (with_reducible refine Below.alloc ?_ ?_ _) | (with_reducible refine Below.setCell ?_ ?_ _) | (with_reducible refine Below.drew ?_) | (with_reducible refine below_drewN ?_ _) | (apply bthen2; (with_reducible assumption)) | go_size))
  have hV1 : V0.heap.size = w.heap.size + 1 + 1 := by subst hV0; simp
  clear hV0
  have B17_0 := B17.2.1 0 _ rfl
  have B17_1 := B17.2.1 1 _ rfl
  go_wp2_with fail
  refine (HZ0.out _ ?_).mono ?_
  · exact Ints.below hx0 hB
  rintro e V19 ⟨rfl, hb⟩
  clear B17_0 B17_1
  have hz20 := hb.size
  have B21 := B17.below hb
  have B22 := B18.below hb
  have hB : Below w.heap.size w V19 := hB.trans (hb.mono hB.size)
  clear B17 B18 hb
  have B22_0 := B22.2.1 0 _ rfl
  have B22_1 := B22.2.1 1 _ rfl
  go_wp2_with fail
  refine (HZ1.out _ ?_).mono ?_
  · exact Ints.below hx1 hB
  rintro e V23 ⟨rfl, hb⟩
  clear B22_0 B22_1
  have hz24 := hb.size
  have B25 := B21.below hb
  have B26 := B22.below hb
  have hB : Below w.heap.size w V23 := hB.trans (hb.mono hB.size)
  clear B21 B22 hb
  try go_upto_region 8 with fail
  go_cut [6, 7] (fun s6 s7 wx => ∃ (bx : Nat) (a : Option Addr) (l c lo hi : Nat), s6 = .pointer (some ⟨bx, 0, none⟩) ∧ s7 = .bool ok ∧ Box wx bx [.bool rn, .slice a l c] ∧ Seg wx lo hi (.slice a l c) RX ∧ V23.heap.size ≤ lo ∧ hi ≤ wx.heap.size ∧ V23.heap.size ≤ bx ∧ (bx < lo ∨ hi ≤ bx) ∧ Below V23.heap.size V23 wx)
  case first =>
    go_region_held3 (fun w' => Below V23.heap.size V23 w' ∧ w'.cell? ⟨w.heap.size, 0, none⟩ = some (.bool n0) ∧ w'.cell? ⟨w.heap.size, 1, none⟩ = some (.slice a0 l0 c0) ∧ w'.cell? ⟨w.heap.size + 1, 0, none⟩ = some (.bool n1) ∧ w'.cell? ⟨w.heap.size + 1, 1, none⟩ = some (.slice a1 l1 c1)) ((refine (fun hbK => And.intro hbK (by exact ⟨(hbK.cell (p := ⟨w.heap.size, 0, none⟩) (B25).1).trans (B25.2.1 0 _ rfl), (hbK.cell (p := ⟨w.heap.size, 1, none⟩) (B25).1).trans (B25.2.1 1 _ rfl), (hbK.cell (p := ⟨w.heap.size + 1, 0, none⟩) (B26).1).trans (B26.2.1 0 _ rfl), (hbK.cell (p := ⟨w.heap.size + 1, 1, none⟩) (B26).1).trans (B26.2.1 1 _ rfl)⟩)) ?_; repeat' (first | (with_reducible exact Below.refl _ _) | (with_reducible assumption) | (with_reducible refine Below.alloc ?_ ?_ _) | (with_reducible refine Below.setCell ?_ ?_ _) | (with_reducible refine Below.drew ?_) | (with_reducible refine below_drewN ?_ _) | (apply bthen2; (with_reducible assumption)) | go_size))) ((first | (go_at_call_of 25 (Value.slice a0 l0 c0); refine (HT0.out _ ?_).mono ?_; (focus (first | (refine Ints.below hx0 ?_; (repeat' (first | (with_reducible exact Below.refl _ _) | (with_reducible assumption) | (with_reducible refine Below.alloc ?_ ?_ _) | (with_reducible refine Below.setCell ?_ ?_ _) | (with_reducible refine Below.drew ?_) | (with_reducible refine below_drewN ?_ _) | (apply bthen2; (with_reducible assumption)) | go_size)); done))); rintro e ua ⟨taa, tla, tca, rfl, hoa, hba⟩; have ia := hoa.ints; obtain ⟨loa, hia, sga, hla, hha⟩ := Own.segL hoa; (try simp only [World.size_alloc, World.size_setCell, World.size_drew, World.heap_drewN] at hla); have hza := hba.size; (try simp only [World.size_alloc, World.size_setCell, World.size_drew, World.heap_drewN] at hza); try (have qB := Box.below (by first | exact box_made2 _ _ _ _ | exact box_made4 _ _ _ _ _ _ | (with_reducible assumption)) hba; (try simp only [World.size_drew, World.heap_drewN] at qB); have qB0 := qB.2.1 0 _ rfl; have qB1 := qB.2.1 1 _ rfl; (try have qB2 := qB.2.1 2 _ rfl); (try have qB3 := qB.2.1 3 _ rfl); have qBf := qB.2.2)) | (go_at_call_of 25 (Value.slice a1 l1 c1); refine (HT1.out _ ?_).mono ?_; (focus (first | (refine Ints.below hx1 ?_; (repeat' (first | (with_reducible exact Below.refl _ _) | (with_reducible assumption) | (with_reducible refine Below.alloc ?_ ?_ _) | (with_reducible refine Below.setCell ?_ ?_ _) | (with_reducible refine Below.drew ?_) | (with_reducible refine below_drewN ?_ _) | (apply bthen2; (with_reducible assumption)) | go_size)); done))); rintro e ub ⟨tab, tlb, tcb, rfl, hob, hbb⟩; have ib := hob.ints; obtain ⟨lob, hib, sgb, hlb, hhb⟩ := Own.segL hob; (try simp only [World.size_alloc, World.size_setCell, World.size_drew, World.heap_drewN] at hlb); have hzb := hbb.size; (try simp only [World.size_alloc, World.size_setCell, World.size_drew, World.heap_drewN] at hzb); try (have qB := Box.below (by first | exact box_made2 _ _ _ _ | exact box_made4 _ _ _ _ _ _ | (with_reducible assumption)) hbb; (try simp only [World.size_drew, World.heap_drewN] at qB); have qB0 := qB.2.1 0 _ rfl; have qB1 := qB.2.1 1 _ rfl; (try have qB2 := qB.2.1 2 _ rfl); (try have qB3 := qB.2.1 3 _ rfl); have qBf := qB.2.2)) | (go_at_call 24; refine (HS.out _ _ _ _ _ _  _ ?_ ?_ ).mono ?_; (focus (first | (refine Ints.below ia ?_; (repeat' (first | (with_reducible exact Below.refl _ _) | (with_reducible assumption) | (with_reducible refine Below.alloc ?_ ?_ _) | (with_reducible refine Below.setCell ?_ ?_ _) | (with_reducible refine Below.drew ?_) | (with_reducible refine below_drewN ?_ _) | (apply bthen2; (with_reducible assumption)) | go_size)); done))); (focus (first | (refine Ints.below ib ?_; (repeat' (first | (with_reducible exact Below.refl _ _) | (with_reducible assumption) | (with_reducible refine Below.alloc ?_ ?_ _) | (with_reducible refine Below.setCell ?_ ?_ _) | (with_reducible refine Below.drew ?_) | (with_reducible refine below_drewN ?_ _) | (apply bthen2; (with_reducible assumption)) | go_size)); done))); rintro e uz ⟨raz, rlz, rcz, rfl, hoz, hbz⟩; obtain ⟨loz, hiz, sgz, hlz, hhz⟩ := Own.segL hoz; (try simp only [World.size_alloc, World.size_setCell, World.size_drew, World.heap_drewN] at hlz); have hzz := hbz.size; (try simp only [World.size_alloc, World.size_setCell, World.size_drew, World.heap_drewN] at hzz); try (have qB := Box.below (by first | exact box_made2 _ _ _ _ | exact box_made4 _ _ _ _ _ _ | (with_reducible assumption)) hbz; (try simp only [World.size_drew, World.heap_drewN] at qB); have qB0 := qB.2.1 0 _ rfl; have qB1 := qB.2.1 1 _ rfl; (try have qB2 := qB.2.1 2 _ rfl); (try have qB3 := qB.2.1 3 _ rfl); have qBf := qB.2.2))))
    all_goals (go_wp2_with fail; go_meet; exact ⟨_, raz, rlz, rcz, loz, hiz, rfl, rfl, (by first | (with_reducible exact box_made2 _ _ _ _) | (exact Box.set (Box.set (vs := [_, _]) (by first | assumption | exact box_made2 _ _ _ _) 0 (by simp) _) 1 (by simp) _)), (by (repeat' (first | (with_reducible assumption) | (with_reducible refine Seg.set ?_ ?_ _) | (with_reducible refine Seg.alloc ?_ _) | (with_reducible refine Seg.drew ?_))); all_goals (first | omega | (simp; done) | (simp; omega))), (by first | omega | (simp; done) | (simp; omega)), (by first | omega | (simp; done) | (simp; omega)), (by first | omega | (simp; done) | (simp; omega)), (by first | omega | (simp; done) | (simp; omega)), (by repeat' (first | (with_reducible exact Below.refl _ _) | (with_reducible assumption) | (with_reducible refine Below.alloc ?_ ?_ _) | (with_reducible refine Below.setCell ?_ ?_ _) | (with_reducible refine Below.drew ?_) | (with_reducible refine below_drewN ?_ _) | (apply bthen2; (with_reducible assumption)) | go_size))⟩)
  case rest =>
  obtain ⟨bx28, a28_, l28_, c28_, lo28, hi28, rfl, rfl, B28, S28, o28a, o28b, o28c, o28d, hb⟩ := hcut
  obtain ⟨V27, hV⟩ : ∃ x, x = wc := ⟨_, rfl⟩
  subst hV
  have hu28 := B28.1
  have hz29 := hb.size
  have B30 := B25.below hb
  have B31 := B26.below hb
  have hB : Below w.heap.size w V27 := hB.trans (hb.mono hB.size)
  clear B25 B26 hb
  try go_upto_region 9 with fail
  go_cut [8] (fun s8 wx => ∃ (bx : Nat) (a : Option Addr) (l c lo hi : Nat), s8 = .pointer (some ⟨bx, 0, none⟩) ∧ Box wx bx [.bool n0, .slice a l c] ∧ Seg wx lo hi (.slice a l c) x0 ∧ V27.heap.size ≤ lo ∧ hi ≤ wx.heap.size ∧ V27.heap.size ≤ bx ∧ (bx < lo ∨ hi ≤ bx) ∧ Below V27.heap.size V27 wx)
  case first =>
    have B30_0 := B30.2.1 0 _ rfl
    have B30_1 := B30.2.1 1 _ rfl
    go_wp2_with (first | (go_at_call_of 25 (Value.slice a0 l0 c0); refine (HT0.out _ ?_).mono ?_; (focus (first | (refine Ints.below hx0 ?_; (repeat' (first | (with_reducible exact Below.refl _ _) | (with_reducible assumption) | (with_reducible refine Below.alloc ?_ ?_ _) | (with_reducible refine Below.setCell ?_ ?_ _) | (with_reducible refine Below.drew ?_) | (with_reducible refine below_drewN ?_ _) | (apply bthen2; (with_reducible assumption)) | go_size)); done))); rintro e uz ⟨taz, tlz, tcz, rfl, hoz, hbz⟩; have iz := hoz.ints; obtain ⟨loz, hiz, sgz, hlz, hhz⟩ := Own.segL hoz; (try simp only [World.size_alloc, World.size_setCell, World.size_drew, World.heap_drewN] at hlz); have hzz := hbz.size; (try simp only [World.size_alloc, World.size_setCell, World.size_drew, World.heap_drewN] at hzz); try (have qB := Box.below (by first | exact box_made2 _ _ _ _ | exact box_made4 _ _ _ _ _ _ | (with_reducible assumption)) hbz; (try simp only [World.size_drew, World.heap_drewN] at qB); have qB0 := qB.2.1 0 _ rfl; have qB1 := qB.2.1 1 _ rfl; (try have qB2 := qB.2.1 2 _ rfl); (try have qB3 := qB.2.1 3 _ rfl); have qBf := qB.2.2); try (have qB := Box.below (by first | exact box_made2 _ _ _ _ | exact box_made4 _ _ _ _ _ _ | (with_reducible assumption)) hbz; (try simp only [World.size_drew, World.heap_drewN] at qB); have qB0 := qB.2.1 0 _ rfl; have qB1 := qB.2.1 1 _ rfl; (try have qB2 := qB.2.1 2 _ rfl); (try have qB3 := qB.2.1 3 _ rfl); have qBf := qB.2.2)))
    all_goals (go_wp2_with fail; go_meet; exact ⟨_, taz, tlz, tcz, loz, hiz, rfl, (by first | (with_reducible exact box_made2 _ _ _ _) | (exact Box.set (Box.set (vs := [_, _]) (by first | assumption | exact box_made2 _ _ _ _) 0 (by simp) _) 1 (by simp) _)), (by (repeat' (first | (with_reducible assumption) | (with_reducible refine Seg.set ?_ ?_ _) | (with_reducible refine Seg.alloc ?_ _) | (with_reducible refine Seg.drew ?_))); all_goals (first | omega | (simp; done) | (simp; omega))), (by first | omega | (simp; done) | (simp; omega)), (by first | omega | (simp; done) | (simp; omega)), (by first | omega | (simp; done) | (simp; omega)), (by first | omega | (simp; done) | (simp; omega)), (by repeat' (first | (with_reducible exact Below.refl _ _) | (with_reducible assumption) | (with_reducible refine Below.alloc ?_ ?_ _) | (with_reducible refine Below.setCell ?_ ?_ _) | (with_reducible refine Below.drew ?_) | (with_reducible refine below_drewN ?_ _) | (apply bthen2; (with_reducible assumption)) | go_size))⟩)
  case rest =>
  obtain ⟨bx33, a33_, l33_, c33_, lo33, hi33, rfl, B33, S33, o33a, o33b, o33c, o33d, hb⟩ := hcut
  obtain ⟨V32, hV⟩ : ∃ x, x = wc := ⟨_, rfl⟩
  subst hV
  have hu33 := B33.1
  have hz34 := hb.size
  have B35 := B30.below hb
  have B36 := B31.below hb
  have B37 := B28.below hb
  have S38 := S28.belowS hb
  have hB : Below w.heap.size w V32 := hB.trans (hb.mono hB.size)
  clear B30 B31 B28 S28 hb
  try go_upto_region 10 with fail
  go_cut [9] (fun s9 wx => ∃ (bx : Nat) (a : Option Addr) (l c lo hi : Nat), s9 = .pointer (some ⟨bx, 0, none⟩) ∧ Box wx bx [.bool n1, .slice a l c] ∧ Seg wx lo hi (.slice a l c) x1 ∧ V32.heap.size ≤ lo ∧ hi ≤ wx.heap.size ∧ V32.heap.size ≤ bx ∧ (bx < lo ∨ hi ≤ bx) ∧ Below V32.heap.size V32 wx)
  case first =>
    have B36_0 := B36.2.1 0 _ rfl
    have B36_1 := B36.2.1 1 _ rfl
    go_wp2_with (first | (go_at_call_of 25 (Value.slice a1 l1 c1); refine (HT1.out _ ?_).mono ?_; (focus (first | (refine Ints.below hx1 ?_; (repeat' (first | (with_reducible exact Below.refl _ _) | (with_reducible assumption) | (with_reducible refine Below.alloc ?_ ?_ _) | (with_reducible refine Below.setCell ?_ ?_ _) | (with_reducible refine Below.drew ?_) | (with_reducible refine below_drewN ?_ _) | (apply bthen2; (with_reducible assumption)) | go_size)); done))); rintro e uz ⟨taz, tlz, tcz, rfl, hoz, hbz⟩; have iz := hoz.ints; obtain ⟨loz, hiz, sgz, hlz, hhz⟩ := Own.segL hoz; (try simp only [World.size_alloc, World.size_setCell, World.size_drew, World.heap_drewN] at hlz); have hzz := hbz.size; (try simp only [World.size_alloc, World.size_setCell, World.size_drew, World.heap_drewN] at hzz); try (have qB := Box.below (by first | exact box_made2 _ _ _ _ | exact box_made4 _ _ _ _ _ _ | (with_reducible assumption)) hbz; (try simp only [World.size_drew, World.heap_drewN] at qB); have qB0 := qB.2.1 0 _ rfl; have qB1 := qB.2.1 1 _ rfl; (try have qB2 := qB.2.1 2 _ rfl); (try have qB3 := qB.2.1 3 _ rfl); have qBf := qB.2.2); try (have qB := Box.below (by first | exact box_made2 _ _ _ _ | exact box_made4 _ _ _ _ _ _ | (with_reducible assumption)) hbz; (try simp only [World.size_drew, World.heap_drewN] at qB); have qB0 := qB.2.1 0 _ rfl; have qB1 := qB.2.1 1 _ rfl; (try have qB2 := qB.2.1 2 _ rfl); (try have qB3 := qB.2.1 3 _ rfl); have qBf := qB.2.2)))
    all_goals (go_wp2_with fail; go_meet; exact ⟨_, taz, tlz, tcz, loz, hiz, rfl, (by first | (with_reducible exact box_made2 _ _ _ _) | (exact Box.set (Box.set (vs := [_, _]) (by first | assumption | exact box_made2 _ _ _ _) 0 (by simp) _) 1 (by simp) _)), (by (repeat' (first | (with_reducible assumption) | (with_reducible refine Seg.set ?_ ?_ _) | (with_reducible refine Seg.alloc ?_ _) | (with_reducible refine Seg.drew ?_))); all_goals (first | omega | (simp; done) | (simp; omega))), (by first | omega | (simp; done) | (simp; omega)), (by first | omega | (simp; done) | (simp; omega)), (by first | omega | (simp; done) | (simp; omega)), (by first | omega | (simp; done) | (simp; omega)), (by repeat' (first | (with_reducible exact Below.refl _ _) | (with_reducible assumption) | (with_reducible refine Below.alloc ?_ ?_ _) | (with_reducible refine Below.setCell ?_ ?_ _) | (with_reducible refine Below.drew ?_) | (with_reducible refine below_drewN ?_ _) | (apply bthen2; (with_reducible assumption)) | go_size))⟩)
  case rest =>
  obtain ⟨bx40, a40_, l40_, c40_, lo40, hi40, rfl, B40, S40, o40a, o40b, o40c, o40d, hb⟩ := hcut
  obtain ⟨V39, hV⟩ : ∃ x, x = wc := ⟨_, rfl⟩
  subst hV
  have hu40 := B40.1
  have hz41 := hb.size
  have B42 := B35.below hb
  have B43 := B36.below hb
  have B44 := B37.below hb
  have B45 := B33.below hb
  have S46 := S38.belowS hb
  have S47 := S33.belowS hb
  have hB : Below w.heap.size w V39 := hB.trans (hb.mono hB.size)
  clear B35 B36 B37 B33 S38 S33 hb
  try go_upto_region 11 with fail
  go_cut [10, 11] (fun s10 s11 wx => ∃ (bx : Nat) (a : Option Addr) (l c lo hi : Nat), s10 = .pointer (some ⟨bx, 0, none⟩) ∧ s11 = .bool ok ∧ Box wx bx [.bool rn, .slice a l c] ∧ Seg wx lo hi (.slice a l c) RX ∧ V39.heap.size ≤ lo ∧ hi ≤ wx.heap.size ∧ V39.heap.size ≤ bx ∧ (bx < lo ∨ hi ≤ bx) ∧ Below V39.heap.size V39 wx)
  case first =>
    have B45_0 := B45.2.1 0 _ rfl
    have B45_1 := B45.2.1 1 _ rfl
    have B40_0 := B40.2.1 0 _ rfl
    have B40_1 := B40.2.1 1 _ rfl
    go_wp2_with (first | (go_at_call 26; refine (HI.out _ _ _ _ _ _  _ ?_ ?_ ).mono ?_; (focus (first | (refine Ints.below S47.ints ?_; (repeat' (first | (with_reducible exact Below.refl _ _) | (with_reducible assumption) | (with_reducible refine Below.alloc ?_ ?_ _) | (with_reducible refine Below.setCell ?_ ?_ _) | (with_reducible refine Below.drew ?_) | (with_reducible refine below_drewN ?_ _) | (apply bthen2; (with_reducible assumption)) | go_size)); done))); (focus (first | (refine Ints.below S40.ints ?_; (repeat' (first | (with_reducible exact Below.refl _ _) | (with_reducible assumption) | (with_reducible refine Below.alloc ?_ ?_ _) | (with_reducible refine Below.setCell ?_ ?_ _) | (with_reducible refine Below.drew ?_) | (with_reducible refine below_drewN ?_ _) | (apply bthen2; (with_reducible assumption)) | go_size)); done))); rintro e uz ⟨raz, rlz, rcz, rfl, hoz, hbz⟩; obtain ⟨loz, hiz, sgz, hlz, hhz⟩ := Own.segL hoz; (try simp only [World.size_alloc, World.size_setCell, World.size_drew, World.heap_drewN] at hlz); have hzz := hbz.size; (try simp only [World.size_alloc, World.size_setCell, World.size_drew, World.heap_drewN] at hzz); try (have qB := Box.below (by first | exact box_made2 _ _ _ _ | exact box_made4 _ _ _ _ _ _ | (with_reducible assumption)) hbz; (try simp only [World.size_drew, World.heap_drewN] at qB); have qB0 := qB.2.1 0 _ rfl; have qB1 := qB.2.1 1 _ rfl; (try have qB2 := qB.2.1 2 _ rfl); (try have qB3 := qB.2.1 3 _ rfl); have qBf := qB.2.2)))
    all_goals (go_wp2_with fail; go_meet; exact ⟨_, raz, rlz, rcz, loz, hiz, rfl, rfl, (by first | (with_reducible exact box_made2 _ _ _ _) | (exact Box.set (Box.set (vs := [_, _]) (by first | assumption | exact box_made2 _ _ _ _) 0 (by simp) _) 1 (by simp) _)), (by (repeat' (first | (with_reducible assumption) | (with_reducible refine Seg.set ?_ ?_ _) | (with_reducible refine Seg.alloc ?_ _) | (with_reducible refine Seg.drew ?_))); all_goals (first | omega | (simp; done) | (simp; omega))), (by first | omega | (simp; done) | (simp; omega)), (by first | omega | (simp; done) | (simp; omega)), (by first | omega | (simp; done) | (simp; omega)), (by first | omega | (simp; done) | (simp; omega)), (by repeat' (first | (with_reducible exact Below.refl _ _) | (with_reducible assumption) | (with_reducible refine Below.alloc ?_ ?_ _) | (with_reducible refine Below.setCell ?_ ?_ _) | (with_reducible refine Below.drew ?_) | (with_reducible refine below_drewN ?_ _) | (apply bthen2; (with_reducible assumption)) | go_size))⟩)
  case rest =>
  obtain ⟨bx49, a49_, l49_, c49_, lo49, hi49, rfl, rfl, B49, S49, o49a, o49b, o49c, o49d, hb⟩ := hcut
  obtain ⟨V48, hV⟩ : ∃ x, x = wc := ⟨_, rfl⟩
  subst hV
  have hu49 := B49.1
  have hz50 := hb.size
  have B51 := B42.below hb
  have B52 := B43.below hb
  have B53 := B44.below hb
  have B54 := B45.below hb
  have B55 := B40.below hb
  have S56 := S46.belowS hb
  have S57 := S47.belowS hb
  have S58 := S40.belowS hb
  have hB : Below w.heap.size w V48 := hB.trans (hb.mono hB.size)
  clear B42 B43 B44 B45 B40 S46 S47 S40 hb
  have B49_0 := B49.2.1 0 _ rfl
  have B49_1 := B49.2.1 1 _ rfl
  have B53_0 := B53.2.1 0 _ rfl
  have B53_1 := B53.2.1 1 _ rfl
  go_wp2_with fail
  refine (eqWhole_same _ _ _ _ _ _ _ RX _ ?_ ?_).mono ?_
  · exact S49.ints
  · exact S56.ints
  rintro e V59 ⟨rfl, hb⟩
  clear B49_0 B49_1 B53_0 B53_1
  have hz60 := hb.size
  have B61 := B51.below hb
  have B62 := B52.below hb
  have B63 := B53.below hb
  have B64 := B54.below hb
  have B65 := B55.below hb
  have B66 := B49.below hb
  have S67 := S56.belowS hb
  have S68 := S57.belowS hb
  have S69 := S58.belowS hb
  have S70 := S49.belowS hb
  have hB : Below w.heap.size w V59 := hB.trans (hb.mono hB.size)
  clear B51 B52 B53 B54 B55 B49 S56 S57 S58 S49 hb
  try go_upto_region 14 with fail
  go_region_held3 (fun w' => Below V59.heap.size V59 w' ∧ w'.cell? ⟨bx33, 0, none⟩ = some (.bool n0) ∧ w'.cell? ⟨bx33, 1, none⟩ = some (.slice a33_ l33_ c33_) ∧ w'.cell? ⟨w.heap.size, 0, none⟩ = some (.bool n0) ∧ w'.cell? ⟨w.heap.size, 1, none⟩ = some (.slice a0 l0 c0)) ((refine (fun hbK => And.intro hbK (by exact ⟨(hbK.cell (p := ⟨bx33, 0, none⟩) (B64).1).trans (B64.2.1 0 _ rfl), (hbK.cell (p := ⟨bx33, 1, none⟩) (B64).1).trans (B64.2.1 1 _ rfl), (hbK.cell (p := ⟨w.heap.size, 0, none⟩) (B61).1).trans (B61.2.1 0 _ rfl), (hbK.cell (p := ⟨w.heap.size, 1, none⟩) (B61).1).trans (B61.2.1 1 _ rfl)⟩)) ?_; repeat' (first | (with_reducible exact Below.refl _ _) | (with_reducible assumption) | (with_reducible refine Below.alloc ?_ ?_ _) | (with_reducible refine Below.setCell ?_ ?_ _) | (with_reducible refine Below.drew ?_) | (with_reducible refine below_drewN ?_ _) | (apply bthen2; (with_reducible assumption)) | go_size))) ((first | (go_at_call_of 25 (Value.slice a0 l0 c0); refine (HT0.out _ ?_).mono ?_; (focus (first | (refine Ints.below hx0 ?_; (repeat' (first | (with_reducible exact Below.refl _ _) | (with_reducible assumption) | (with_reducible refine Below.alloc ?_ ?_ _) | (with_reducible refine Below.setCell ?_ ?_ _) | (with_reducible refine Below.drew ?_) | (with_reducible refine below_drewN ?_ _) | (apply bthen2; (with_reducible assumption)) | go_size)); done))); rintro e ux ⟨tax, tlx, tcx, rfl, hox, hbx⟩; have ix := hox.ints; obtain ⟨lox, hix, sgx, hlx, hhx⟩ := Own.segL hox; (try simp only [World.size_alloc, World.size_setCell, World.size_drew, World.heap_drewN] at hlx); have hzx := hbx.size; (try simp only [World.size_alloc, World.size_setCell, World.size_drew, World.heap_drewN] at hzx); try (have qB := Box.below (by first | exact box_made2 _ _ _ _ | exact box_made4 _ _ _ _ _ _ | (with_reducible assumption)) hbx; (try simp only [World.size_drew, World.heap_drewN] at qB); have qB0 := qB.2.1 0 _ rfl; have qB1 := qB.2.1 1 _ rfl; (try have qB2 := qB.2.1 2 _ rfl); (try have qB3 := qB.2.1 3 _ rfl); have qBf := qB.2.2)) | (go_at_call 27; refine (eqWhole_same _ _ _ _ _ _ _ x0 _ ?_ ?_).mono ?_; (focus (first | (refine Ints.below S68.ints ?_; (repeat' (first | (with_reducible exact Below.refl _ _) | (with_reducible assumption) | (with_reducible refine Below.alloc ?_ ?_ _) | (with_reducible refine Below.setCell ?_ ?_ _) | (with_reducible refine Below.drew ?_) | (with_reducible refine below_drewN ?_ _) | (apply bthen2; (with_reducible assumption)) | go_size)); done))); (focus (first | (refine Ints.below ix ?_; (repeat' (first | (with_reducible exact Below.refl _ _) | (with_reducible assumption) | (with_reducible refine Below.alloc ?_ ?_ _) | (with_reducible refine Below.setCell ?_ ?_ _) | (with_reducible refine Below.drew ?_) | (with_reducible refine below_drewN ?_ _) | (apply bthen2; (with_reducible assumption)) | go_size)); done))); rintro e V71 ⟨rfl, hbz⟩)))
  have hb : Below V59.heap.size V59 V71 := (by repeat' (first | (with_reducible exact Below.refl _ _) | (with_reducible assumption) | (with_reducible refine Below.alloc ?_ ?_ _) | (with_reducible refine Below.setCell ?_ ?_ _) | (with_reducible refine Below.drew ?_) | (with_reducible refine below_drewN ?_ _) | (apply bthen2; (with_reducible assumption)) | go_size))
  have hz72 := hb.size
  have B73 := B61.below hb
  have B74 := B62.below hb
  have B75 := B63.below hb
  have B76 := B64.below hb
  have B77 := B65.below hb
  have B78 := B66.below hb
  have S79 := S67.belowS hb
  have S80 := S68.belowS hb
  have S81 := S69.belowS hb
  have S82 := S70.belowS hb
  have hB : Below w.heap.size w V71 := hB.trans (hb.mono hB.size)
  clear B61 B62 B63 B64 B65 B66 S67 S68 S69 S70 hb
  try go_upto_region 16 with fail
  go_region_held3 (fun w' => Below V71.heap.size V71 w' ∧ w'.cell? ⟨bx40, 0, none⟩ = some (.bool n1) ∧ w'.cell? ⟨bx40, 1, none⟩ = some (.slice a40_ l40_ c40_) ∧ w'.cell? ⟨w.heap.size + 1, 0, none⟩ = some (.bool n1) ∧ w'.cell? ⟨w.heap.size + 1, 1, none⟩ = some (.slice a1 l1 c1)) ((refine (fun hbK => And.intro hbK (by exact ⟨(hbK.cell (p := ⟨bx40, 0, none⟩) (B77).1).trans (B77.2.1 0 _ rfl), (hbK.cell (p := ⟨bx40, 1, none⟩) (B77).1).trans (B77.2.1 1 _ rfl), (hbK.cell (p := ⟨w.heap.size + 1, 0, none⟩) (B74).1).trans (B74.2.1 0 _ rfl), (hbK.cell (p := ⟨w.heap.size + 1, 1, none⟩) (B74).1).trans (B74.2.1 1 _ rfl)⟩)) ?_; repeat' (first | (with_reducible exact Below.refl _ _) | (with_reducible assumption) | (with_reducible refine Below.alloc ?_ ?_ _) | (with_reducible refine Below.setCell ?_ ?_ _) | (with_reducible refine Below.drew ?_) | (with_reducible refine below_drewN ?_ _) | (apply bthen2; (with_reducible assumption)) | go_size))) ((first | (go_at_call_of 25 (Value.slice a1 l1 c1); refine (HT1.out _ ?_).mono ?_; (focus (first | (refine Ints.below hx1 ?_; (repeat' (first | (with_reducible exact Below.refl _ _) | (with_reducible assumption) | (with_reducible refine Below.alloc ?_ ?_ _) | (with_reducible refine Below.setCell ?_ ?_ _) | (with_reducible refine Below.drew ?_) | (with_reducible refine below_drewN ?_ _) | (apply bthen2; (with_reducible assumption)) | go_size)); done))); rintro e ux ⟨tax, tlx, tcx, rfl, hox, hbx⟩; have ix := hox.ints; obtain ⟨lox, hix, sgx, hlx, hhx⟩ := Own.segL hox; (try simp only [World.size_alloc, World.size_setCell, World.size_drew, World.heap_drewN] at hlx); have hzx := hbx.size; (try simp only [World.size_alloc, World.size_setCell, World.size_drew, World.heap_drewN] at hzx); try (have qB := Box.below (by first | exact box_made2 _ _ _ _ | exact box_made4 _ _ _ _ _ _ | (with_reducible assumption)) hbx; (try simp only [World.size_drew, World.heap_drewN] at qB); have qB0 := qB.2.1 0 _ rfl; have qB1 := qB.2.1 1 _ rfl; (try have qB2 := qB.2.1 2 _ rfl); (try have qB3 := qB.2.1 3 _ rfl); have qBf := qB.2.2)) | (go_at_call 27; refine (eqWhole_same _ _ _ _ _ _ _ x1 _ ?_ ?_).mono ?_; (focus (first | (refine Ints.below S81.ints ?_; (repeat' (first | (with_reducible exact Below.refl _ _) | (with_reducible assumption) | (with_reducible refine Below.alloc ?_ ?_ _) | (with_reducible refine Below.setCell ?_ ?_ _) | (with_reducible refine Below.drew ?_) | (with_reducible refine below_drewN ?_ _) | (apply bthen2; (with_reducible assumption)) | go_size)); done))); (focus (first | (refine Ints.below ix ?_; (repeat' (first | (with_reducible exact Below.refl _ _) | (with_reducible assumption) | (with_reducible refine Below.alloc ?_ ?_ _) | (with_reducible refine Below.setCell ?_ ?_ _) | (with_reducible refine Below.drew ?_) | (with_reducible refine below_drewN ?_ _) | (apply bthen2; (with_reducible assumption)) | go_size)); done))); rintro e V83 ⟨rfl, hbz⟩)))
  have hb : Below V71.heap.size V71 V83 := (by repeat' (first | (with_reducible exact Below.refl _ _) | (with_reducible assumption) | (with_reducible refine Below.alloc ?_ ?_ _) | (with_reducible refine Below.setCell ?_ ?_ _) | (with_reducible refine Below.drew ?_) | (with_reducible refine below_drewN ?_ _) | (apply bthen2; (with_reducible assumption)) | go_size))
  have hz84 := hb.size
  have B85 := B73.below hb
  have B86 := B74.below hb
  have B87 := B75.below hb
  have B88 := B76.below hb
  have B89 := B77.below hb
  have B90 := B78.below hb
  have S91 := S79.belowS hb
  have S92 := S80.belowS hb
  have S93 := S81.belowS hb
  have S94 := S82.belowS hb
  have hB : Below w.heap.size w V83 := hB.trans (hb.mono hB.size)
  clear B73 B74 B75 B76 B77 B78 S79 S80 S81 S82 hb
  have B88_0 := B88.2.1 0 _ rfl
  have B88_1 := B88.2.1 1 _ rfl
  go_wp2_with fail
  refine (markWhole_S _ _ _ _ _ _ _ (1) _ S92 (by omega) (by omega)).mono ?_
  rintro e V95 ⟨rfl, S96, hc⟩
  clear B88_0 B88_1
  have hz97 := hc.size
  have q0 := B85.1
  have B98 := B85.chg hc (by intro e; (have q1 := S92.rng e; omega))
  clear q0
  have q0 := B86.1
  have B99 := B86.chg hc (by intro e; (have q1 := S92.rng e; omega))
  clear q0
  have q0 := B87.1
  have B100 := B87.chg hc (by intro e; (have q1 := S92.rng e; omega))
  clear q0
  have q0 := B88.1
  have B101 := B88.chg hc (by intro e; (have q1 := S92.rng e; omega))
  clear q0
  have q0 := B89.1
  have B102 := B89.chg hc (by intro e; (have q1 := S92.rng e; omega))
  clear q0
  have q0 := B90.1
  have B103 := B90.chg hc (by intro e; (have q1 := S92.rng e; omega))
  clear q0
  have S104 := S91.chgS hc (by intro k hk e; (have q1 := S92.rng e; have q2 := S91.rng hk; omega))
  have S106 := S93.chgS hc (by intro k hk e; (have q1 := S92.rng e; have q2 := S93.rng hk; omega))
  have S107 := S94.chgS hc (by intro k hk e; (have q1 := S92.rng e; have q2 := S94.rng hk; omega))
  have hB : Below w.heap.size w V95 := hB.trans (hc.below (by intro k e; (have q1 := S92.rng e; omega)) hB.size)
  clear B85 B86 B87 B88 B89 B90 S91 S92 S93 S94 hc
  have B102_0 := B102.2.1 0 _ rfl
  have B102_1 := B102.2.1 1 _ rfl
  go_wp2_with fail
  refine (markWhole_S _ _ _ _ _ _ _ (1 + (x0.length : Int)) _ S106 (by omega) (by omega)).mono ?_
  rintro e V108 ⟨rfl, S109, hc⟩
  clear B102_0 B102_1
  have hz110 := hc.size
  have q0 := B98.1
  have B111 := B98.chg hc (by intro e; (have q1 := S106.rng e; omega))
  clear q0
  have q0 := B99.1
  have B112 := B99.chg hc (by intro e; (have q1 := S106.rng e; omega))
  clear q0
  have q0 := B100.1
  have B113 := B100.chg hc (by intro e; (have q1 := S106.rng e; omega))
  clear q0
  have q0 := B101.1
  have B114 := B101.chg hc (by intro e; (have q1 := S106.rng e; omega))
  clear q0
  have q0 := B102.1
  have B115 := B102.chg hc (by intro e; (have q1 := S106.rng e; omega))
  clear q0
  have q0 := B103.1
  have B116 := B103.chg hc (by intro e; (have q1 := S106.rng e; omega))
  clear q0
  have S117 := S104.chgS hc (by intro k hk e; (have q1 := S106.rng e; have q2 := S104.rng hk; omega))
  have S118 := S96.chgS hc (by intro k hk e; (have q1 := S106.rng e; have q2 := S96.rng hk; omega))
  have S120 := S107.chgS hc (by intro k hk e; (have q1 := S106.rng e; have q2 := S107.rng hk; omega))
  have hB : Below w.heap.size w V108 := hB.trans (hc.below (by intro k e; (have q1 := S106.rng e; omega)) hB.size)
  clear B98 B99 B100 B101 B102 B103 S104 S96 S106 S107 hc
  have B116_0 := B116.2.1 0 _ rfl
  have B116_1 := B116.2.1 1 _ rfl
  have B113_0 := B113.2.1 0 _ rfl
  have B113_1 := B113.2.1 1 _ rfl
  go_wp2_with fail
  refine (eqWhole_same _ _ _ _ _ _ _ RX _ ?_ ?_).mono ?_
  · exact S120.ints
  · exact S117.ints
  rintro e V121 ⟨rfl, hb⟩
  clear B116_0 B116_1 B113_0 B113_1
  have hz122 := hb.size
  have B123 := B111.below hb
  have B124 := B112.below hb
  have B125 := B113.below hb
  have B126 := B114.below hb
  have B127 := B115.below hb
  have B128 := B116.below hb
  have S129 := S117.belowS hb
  have S130 := S118.belowS hb
  have S131 := S109.belowS hb
  have S132 := S120.belowS hb
  have hB : Below w.heap.size w V121 := hB.trans (hb.mono hB.size)
  clear B111 B112 B113 B114 B115 B116 S117 S118 S109 S120 hb
  have B128_0 := B128.2.1 0 _ rfl
  have B128_1 := B128.2.1 1 _ rfl
  go_wp2_with fail
  refine (markWhole_S _ _ _ _ _ _ _ (1) _ S132 (by omega) (by omega)).mono ?_
  rintro e V133 ⟨rfl, S134, hc⟩
  clear B128_0 B128_1
  have hz135 := hc.size
  have q0 := B123.1
  have B136 := B123.chg hc (by intro e; (have q1 := S132.rng e; omega))
  clear q0
  have q0 := B124.1
  have B137 := B124.chg hc (by intro e; (have q1 := S132.rng e; omega))
  clear q0
  have q0 := B125.1
  have B138 := B125.chg hc (by intro e; (have q1 := S132.rng e; omega))
  clear q0
  have q0 := B126.1
  have B139 := B126.chg hc (by intro e; (have q1 := S132.rng e; omega))
  clear q0
  have q0 := B127.1
  have B140 := B127.chg hc (by intro e; (have q1 := S132.rng e; omega))
  clear q0
  have q0 := B128.1
  have B141 := B128.chg hc (by intro e; (have q1 := S132.rng e; omega))
  clear q0
  have S142 := S129.chgS hc (by intro k hk e; (have q1 := S132.rng e; have q2 := S129.rng hk; omega))
  have S143 := S130.chgS hc (by intro k hk e; (have q1 := S132.rng e; have q2 := S130.rng hk; omega))
  have S144 := S131.chgS hc (by intro k hk e; (have q1 := S132.rng e; have q2 := S131.rng hk; omega))
  have hB : Below w.heap.size w V133 := hB.trans (hc.below (by intro k e; (have q1 := S132.rng e; omega)) hB.size)
  clear B123 B124 B125 B126 B127 B128 S129 S130 S131 S132 hc
  have B141_0 := B141.2.1 0 _ rfl
  have B141_1 := B141.2.1 1 _ rfl
  go_wp2_with fail
  refine (heldWhole_any _ _ _ _ RX.length 1 _ ?_ (by omega) (by omega)).mono ?_
  · exact S134.ints
  rintro e V146 ⟨rfl, hb⟩
  clear B141_0 B141_1
  have hz147 := hb.size
  have B148 := B136.below hb
  have B149 := B137.below hb
  have B150 := B138.below hb
  have B151 := B139.below hb
  have B152 := B140.below hb
  have B153 := B141.below hb
  have S154 := S142.belowS hb
  have S155 := S143.belowS hb
  have S156 := S144.belowS hb
  have S157 := S134.belowS hb
  have hB : Below w.heap.size w V146 := hB.trans (hb.mono hB.size)
  clear B136 B137 B138 B139 B140 B141 S142 S143 S144 S134 hb
  try go_upto_region 31 with fail
  go_cut [15, 16] (fun s15 s16 wx => ∃ (bx : Nat) (a : Option Addr) (l c lo hi : Nat), s15 = .pointer (some ⟨bx, 0, none⟩) ∧ s16 = .bool ok ∧ Box wx bx [.bool rn, .slice a l c] ∧ Seg wx lo hi (.slice a l c) RX ∧ V146.heap.size ≤ lo ∧ hi ≤ wx.heap.size ∧ V146.heap.size ≤ bx ∧ (bx < lo ∨ hi ≤ bx) ∧ Below V146.heap.size V146 wx)
  case first =>
    go_region_held3 (fun w' => Below V146.heap.size V146 w' ∧ w'.cell? ⟨w.heap.size, 0, none⟩ = some (.bool n0) ∧ w'.cell? ⟨w.heap.size, 1, none⟩ = some (.slice a0 l0 c0) ∧ w'.cell? ⟨w.heap.size + 1, 0, none⟩ = some (.bool n1) ∧ w'.cell? ⟨w.heap.size + 1, 1, none⟩ = some (.slice a1 l1 c1)) ((refine (fun hbK => And.intro hbK (by exact ⟨(hbK.cell (p := ⟨w.heap.size, 0, none⟩) (B148).1).trans (B148.2.1 0 _ rfl), (hbK.cell (p := ⟨w.heap.size, 1, none⟩) (B148).1).trans (B148.2.1 1 _ rfl), (hbK.cell (p := ⟨w.heap.size + 1, 0, none⟩) (B149).1).trans (B149.2.1 0 _ rfl), (hbK.cell (p := ⟨w.heap.size + 1, 1, none⟩) (B149).1).trans (B149.2.1 1 _ rfl)⟩)) ?_; repeat' (first | (with_reducible exact Below.refl _ _) | (with_reducible assumption) | (with_reducible refine Below.alloc ?_ ?_ _) | (with_reducible refine Below.setCell ?_ ?_ _) | (with_reducible refine Below.drew ?_) | (with_reducible refine below_drewN ?_ _) | (apply bthen2; (with_reducible assumption)) | go_size))) ((first | (go_at_call_of 25 (Value.slice a0 l0 c0); refine (HT0.out _ ?_).mono ?_; (focus (first | (refine Ints.below hx0 ?_; (repeat' (first | (with_reducible exact Below.refl _ _) | (with_reducible assumption) | (with_reducible refine Below.alloc ?_ ?_ _) | (with_reducible refine Below.setCell ?_ ?_ _) | (with_reducible refine Below.drew ?_) | (with_reducible refine below_drewN ?_ _) | (apply bthen2; (with_reducible assumption)) | go_size)); done))); rintro e ua ⟨taa, tla, tca, rfl, hoa, hba⟩; have ia := hoa.ints; obtain ⟨loa, hia, sga, hla, hha⟩ := Own.segL hoa; (try simp only [World.size_alloc, World.size_setCell, World.size_drew, World.heap_drewN] at hla); have hza := hba.size; (try simp only [World.size_alloc, World.size_setCell, World.size_drew, World.heap_drewN] at hza); try (have qB := Box.below (by first | exact box_made2 _ _ _ _ | exact box_made4 _ _ _ _ _ _ | (with_reducible assumption)) hba; (try simp only [World.size_drew, World.heap_drewN] at qB); have qB0 := qB.2.1 0 _ rfl; have qB1 := qB.2.1 1 _ rfl; (try have qB2 := qB.2.1 2 _ rfl); (try have qB3 := qB.2.1 3 _ rfl); have qBf := qB.2.2)) | (go_at_call_of 25 (Value.slice a1 l1 c1); refine (HT1.out _ ?_).mono ?_; (focus (first | (refine Ints.below hx1 ?_; (repeat' (first | (with_reducible exact Below.refl _ _) | (with_reducible assumption) | (with_reducible refine Below.alloc ?_ ?_ _) | (with_reducible refine Below.setCell ?_ ?_ _) | (with_reducible refine Below.drew ?_) | (with_reducible refine below_drewN ?_ _) | (apply bthen2; (with_reducible assumption)) | go_size)); done))); rintro e ub ⟨tab, tlb, tcb, rfl, hob, hbb⟩; have ib := hob.ints; obtain ⟨lob, hib, sgb, hlb, hhb⟩ := Own.segL hob; (try simp only [World.size_alloc, World.size_setCell, World.size_drew, World.heap_drewN] at hlb); have hzb := hbb.size; (try simp only [World.size_alloc, World.size_setCell, World.size_drew, World.heap_drewN] at hzb); try (have qB := Box.below (by first | exact box_made2 _ _ _ _ | exact box_made4 _ _ _ _ _ _ | (with_reducible assumption)) hbb; (try simp only [World.size_drew, World.heap_drewN] at qB); have qB0 := qB.2.1 0 _ rfl; have qB1 := qB.2.1 1 _ rfl; (try have qB2 := qB.2.1 2 _ rfl); (try have qB3 := qB.2.1 3 _ rfl); have qBf := qB.2.2)) | (go_at_call 26; refine (HI.out _ _ _ _ _ _  _ ?_ ?_ ).mono ?_; (focus (first | (refine Ints.below ia ?_; (repeat' (first | (with_reducible exact Below.refl _ _) | (with_reducible assumption) | (with_reducible refine Below.alloc ?_ ?_ _) | (with_reducible refine Below.setCell ?_ ?_ _) | (with_reducible refine Below.drew ?_) | (with_reducible refine below_drewN ?_ _) | (apply bthen2; (with_reducible assumption)) | go_size)); done))); (focus (first | (refine Ints.below ib ?_; (repeat' (first | (with_reducible exact Below.refl _ _) | (with_reducible assumption) | (with_reducible refine Below.alloc ?_ ?_ _) | (with_reducible refine Below.setCell ?_ ?_ _) | (with_reducible refine Below.drew ?_) | (with_reducible refine below_drewN ?_ _) | (apply bthen2; (with_reducible assumption)) | go_size)); done))); rintro e uz ⟨raz, rlz, rcz, rfl, hoz, hbz⟩; obtain ⟨loz, hiz, sgz, hlz, hhz⟩ := Own.segL hoz; (try simp only [World.size_alloc, World.size_setCell, World.size_drew, World.heap_drewN] at hlz); have hzz := hbz.size; (try simp only [World.size_alloc, World.size_setCell, World.size_drew, World.heap_drewN] at hzz); try (have qB := Box.below (by first | exact box_made2 _ _ _ _ | exact box_made4 _ _ _ _ _ _ | (with_reducible assumption)) hbz; (try simp only [World.size_drew, World.heap_drewN] at qB); have qB0 := qB.2.1 0 _ rfl; have qB1 := qB.2.1 1 _ rfl; (try have qB2 := qB.2.1 2 _ rfl); (try have qB3 := qB.2.1 3 _ rfl); have qBf := qB.2.2))))
    all_goals (go_wp2_with fail; go_meet; exact ⟨_, raz, rlz, rcz, loz, hiz, rfl, rfl, (by first | (with_reducible exact box_made2 _ _ _ _) | (exact Box.set (Box.set (vs := [_, _]) (by first | assumption | exact box_made2 _ _ _ _) 0 (by simp) _) 1 (by simp) _)), (by (repeat' (first | (with_reducible assumption) | (with_reducible refine Seg.set ?_ ?_ _) | (with_reducible refine Seg.alloc ?_ _) | (with_reducible refine Seg.drew ?_))); all_goals (first | omega | (simp; done) | (simp; omega))), (by first | omega | (simp; done) | (simp; omega)), (by first | omega | (simp; done) | (simp; omega)), (by first | omega | (simp; done) | (simp; omega)), (by first | omega | (simp; done) | (simp; omega)), (by repeat' (first | (with_reducible exact Below.refl _ _) | (with_reducible assumption) | (with_reducible refine Below.alloc ?_ ?_ _) | (with_reducible refine Below.setCell ?_ ?_ _) | (with_reducible refine Below.drew ?_) | (with_reducible refine below_drewN ?_ _) | (apply bthen2; (with_reducible assumption)) | go_size))⟩)
  case rest =>
  obtain ⟨bx159, a159_, l159_, c159_, lo159, hi159, rfl, rfl, B159, S159, o159a, o159b, o159c, o159d, hb⟩ := hcut
  obtain ⟨V158, hV⟩ : ∃ x, x = wc := ⟨_, rfl⟩
  subst hV
  have hu159 := B159.1
  have hz160 := hb.size
  have B161 := B148.below hb
  have B162 := B149.below hb
  have B163 := B150.below hb
  have B164 := B151.below hb
  have B165 := B152.below hb
  have B166 := B153.below hb
  have S167 := S154.belowS hb
  have S168 := S155.belowS hb
  have S169 := S156.belowS hb
  have S170 := S157.belowS hb
  have hB : Below w.heap.size w V158 := hB.trans (hb.mono hB.size)
  clear B148 B149 B150 B151 B152 B153 S154 S155 S156 S157 hb
  have B159_0 := B159.2.1 0 _ rfl
  have B159_1 := B159.2.1 1 _ rfl
  have B163_0 := B163.2.1 0 _ rfl
  have B163_1 := B163.2.1 1 _ rfl
  go_wp2_with fail
  refine (eqWhole_same _ _ _ _ _ _ _ RX _ ?_ ?_).mono ?_
  · exact S159.ints
  · exact S167.ints
  rintro e V171 ⟨rfl, hb⟩
  clear B159_0 B159_1 B163_0 B163_1
  have hz172 := hb.size
  have B173 := B161.below hb
  have B174 := B162.below hb
  have B175 := B163.below hb
  have B176 := B164.below hb
  have B177 := B165.below hb
  have B178 := B166.below hb
  have B179 := B159.below hb
  have S180 := S167.belowS hb
  have S181 := S168.belowS hb
  have S182 := S169.belowS hb
  have S183 := S170.belowS hb
  have S184 := S159.belowS hb
  have hB : Below w.heap.size w V171 := hB.trans (hb.mono hB.size)
  clear B161 B162 B163 B164 B165 B166 B159 S167 S168 S169 S170 S159 hb
  have B178_0 := B178.2.1 0 _ rfl
  have B178_1 := B178.2.1 1 _ rfl
  go_wp2_with fail
  refine (heldWhole_any _ _ _ _ RX.length 1 _ ?_ (by omega) (by omega)).mono ?_
  · exact S183.ints
  rintro e V185 ⟨rfl, hb⟩
  clear B178_0 B178_1
  have hz186 := hb.size
  have B187 := B173.below hb
  have B188 := B174.below hb
  have B189 := B175.below hb
  have B190 := B176.below hb
  have B191 := B177.below hb
  have B192 := B178.below hb
  have B193 := B179.below hb
  have S194 := S180.belowS hb
  have S195 := S181.belowS hb
  have S196 := S182.belowS hb
  have S197 := S183.belowS hb
  have S198 := S184.belowS hb
  have hB : Below w.heap.size w V185 := hB.trans (hb.mono hB.size)
  clear B173 B174 B175 B176 B177 B178 B179 S180 S181 S182 S183 S184 hb
  go_wp2_with fail
  go_ret
  exact gives rfl hB

end Go.Proofs.Ytopdeoicglkbkaa
