import Derived.Test.YtopdeoicglkbkaaPol2
import Derived.Test.YtopdeoicglkbkaaRegX
import Derived.Test.YtopdeoicglkbkaaPon
set_option linter.unusedSimpArgs false
set_option linter.unusedVariables false
namespace Go.Proofs.Ytopdeoicglkbkaa
open Go.RowKit
/-! ### the polynomials of doubling, on both sides -/

set_option maxRecDepth 100000 in
set_option maxHeartbeats 8000000 in
theorem xdBottom_any (A B x z : Int) (hA : -1000 ≤ A ∧ A ≤ 1000) (hB : -10000 ≤ B ∧ B ≤ 10000) (a1 a2 : Option Addr) (l1 c1 l2 c2 : Nat) (w : World) (hx : Ints w (.slice a1 l1 c1) (dg x.natAbs)) (hz : Ints w (.slice a2 l2 c2) (dg z.natAbs)) (lx : (dg x.natAbs).length ≤ 80) (lz : (dg z.natAbs).length ≤ 80) :
    Calls Try.prog 69 #[.agg #[.int .i64 A, .int .i64 B], .agg #[.bool (decide (x < 0)), .slice a1 l1 c1, .bool (decide (z < 0)), .slice a2 l2 c2]] w (GivesZ (denP A B x z) w) := by
  have hAA : 0 ≤ A * A ∧ A * A ≤ 1000000 := by have := mul_rng (X := 1000) (Y := 1000) (by omega) (by omega) hA hA; exact ⟨by rw [← Int.natAbs_mul_self' A]; exact Int.mul_nonneg (by omega) (by omega), by omega⟩
  obtain ⟨z2, hz2⟩ : ∃ v, v = z * z := ⟨_, rfl⟩
  have hlz2 : (dg z2.natAbs).length ≤ 160 := by rw [hz2]; have := dg_len_mul z z; omega
  have Cz2 := Lib.hid (show ∀ a l c W, Ints W (.slice a l c) (dg z.natAbs) → Calls Try.prog 98 #[.agg #[.bool (decide (z < 0)), .slice a l c]] W (GivesZ z2 W) from fun a l c W h => by rw [hz2]; exact xdSquare_any z _ _ _ W h (by omega))
  obtain ⟨x2, hx2⟩ : ∃ v, v = x * x := ⟨_, rfl⟩
  have hlx2 : (dg x2.natAbs).length ≤ 160 := by rw [hx2]; have := dg_len_mul x x; omega
  have Cx2 := Lib.hid (show ∀ a l c W, Ints W (.slice a l c) (dg x.natAbs) → Calls Try.prog 98 #[.agg #[.bool (decide (x < 0)), .slice a l c]] W (GivesZ x2 W) from fun a l c W h => by rw [hx2]; exact xdSquare_any x _ _ _ W h (by omega))
  obtain ⟨x3, hx3⟩ : ∃ v, v = x2 * x := ⟨_, rfl⟩
  have hlx3 : (dg x3.natAbs).length ≤ 240 := by rw [hx3]; have := dg_len_mul x2 x; omega
  have Cx3 := Lib.hid (show ∀ a l c a2 l2 c2 W, Ints W (.slice a l c) (dg x2.natAbs) → Ints W (.slice a2 l2 c2) (dg x.natAbs) → Calls Try.prog 64 #[.agg #[.bool (decide (x2 < 0)), .slice a l c], .agg #[.bool (decide (x < 0)), .slice a2 l2 c2]] W (GivesZ x3 W) from fun a l c a2 l2 c2 W h h2 => by rw [hx3]; exact bgMul_any x2 x _ _ _ _ _ _ W h h2 (by omega) (by omega))
  obtain ⟨xz2, hxz2⟩ : ∃ v, v = x * z2 := ⟨_, rfl⟩
  have hlxz2 : (dg xz2.natAbs).length ≤ 240 := by rw [hxz2]; have := dg_len_mul x z2; omega
  have Cxz2 := Lib.hid (show ∀ a l c a2 l2 c2 W, Ints W (.slice a l c) (dg x.natAbs) → Ints W (.slice a2 l2 c2) (dg z2.natAbs) → Calls Try.prog 64 #[.agg #[.bool (decide (x < 0)), .slice a l c], .agg #[.bool (decide (z2 < 0)), .slice a2 l2 c2]] W (GivesZ xz2 W) from fun a l c a2 l2 c2 W h h2 => by rw [hxz2]; exact bgMul_any x z2 _ _ _ _ _ _ W h h2 (by omega) (by omega))
  obtain ⟨ax, hax⟩ : ∃ v, v = xz2 * (A) := ⟨_, rfl⟩
  have hkax := dg_len (A).natAbs (by omega)
  have hlax : (dg ax.natAbs).length ≤ 245 := by rw [hax]; have := dg_len_mul xz2 (A); omega
  have Cax := Lib.hid (show ∀ a l c W, Ints W (.slice a l c) (dg xz2.natAbs) → Calls Try.prog 100 #[.agg #[.bool (decide (xz2 < 0)), .slice a l c], .int .i64 (A)] W (GivesZ ax W) from fun a l c W h => by rw [hax]; exact bgTimes_any xz2 (A) (by omega) (by omega) _ _ _ W h (by omega))
  obtain ⟨s1, hs1⟩ : ∃ v, v = x3 + ax := ⟨_, rfl⟩
  have hls1 : (dg s1.natAbs).length ≤ 246 := by rw [hs1]; have := dg_len_add x3 ax (n := 245) (by omega) (by omega); omega
  have Cs1 := Lib.hid (show ∀ a l c a2 l2 c2 W, Ints W (.slice a l c) (dg x3.natAbs) → Ints W (.slice a2 l2 c2) (dg ax.natAbs) → Calls Try.prog 99 #[.agg #[.bool (decide (x3 < 0)), .slice a l c], .agg #[.bool (decide (ax < 0)), .slice a2 l2 c2]] W (GivesZ s1 W) from fun a l c a2 l2 c2 W h h2 => by rw [hs1]; exact bgAdd_any x3 ax _ _ _ _ _ _ W h h2 (by omega) (by omega))
  obtain ⟨zz2, hzz2⟩ : ∃ v, v = z * z2 := ⟨_, rfl⟩
  have hlzz2 : (dg zz2.natAbs).length ≤ 240 := by rw [hzz2]; have := dg_len_mul z z2; omega
  have Czz2 := Lib.hid (show ∀ a l c a2 l2 c2 W, Ints W (.slice a l c) (dg z.natAbs) → Ints W (.slice a2 l2 c2) (dg z2.natAbs) → Calls Try.prog 64 #[.agg #[.bool (decide (z < 0)), .slice a l c], .agg #[.bool (decide (z2 < 0)), .slice a2 l2 c2]] W (GivesZ zz2 W) from fun a l c a2 l2 c2 W h h2 => by rw [hzz2]; exact bgMul_any z z2 _ _ _ _ _ _ W h h2 (by omega) (by omega))
  obtain ⟨bb, hbb⟩ : ∃ v, v = zz2 * (B) := ⟨_, rfl⟩
  have hkbb := dg_len (B).natAbs (by omega)
  have hlbb : (dg bb.natAbs).length ≤ 245 := by rw [hbb]; have := dg_len_mul zz2 (B); omega
  have Cbb := Lib.hid (show ∀ a l c W, Ints W (.slice a l c) (dg zz2.natAbs) → Calls Try.prog 100 #[.agg #[.bool (decide (zz2 < 0)), .slice a l c], .int .i64 (B)] W (GivesZ bb W) from fun a l c W h => by rw [hbb]; exact bgTimes_any zz2 (B) (by omega) (by omega) _ _ _ W h (by omega))
  obtain ⟨s2, hs2⟩ : ∃ v, v = s1 + bb := ⟨_, rfl⟩
  have hls2 : (dg s2.natAbs).length ≤ 247 := by rw [hs2]; have := dg_len_add s1 bb (n := 246) (by omega) (by omega); omega
  have Cs2 := Lib.hid (show ∀ a l c a2 l2 c2 W, Ints W (.slice a l c) (dg s1.natAbs) → Ints W (.slice a2 l2 c2) (dg bb.natAbs) → Calls Try.prog 99 #[.agg #[.bool (decide (s1 < 0)), .slice a l c], .agg #[.bool (decide (bb < 0)), .slice a2 l2 c2]] W (GivesZ s2 W) from fun a l c a2 l2 c2 W h h2 => by rw [hs2]; exact bgAdd_any s1 bb _ _ _ _ _ _ W h h2 (by omega) (by omega))
  obtain ⟨zs, hzs⟩ : ∃ v, v = z * s2 := ⟨_, rfl⟩
  have hlzs : (dg zs.natAbs).length ≤ 327 := by rw [hzs]; have := dg_len_mul z s2; omega
  have Czs := Lib.hid (show ∀ a l c a2 l2 c2 W, Ints W (.slice a l c) (dg z.natAbs) → Ints W (.slice a2 l2 c2) (dg s2.natAbs) → Calls Try.prog 64 #[.agg #[.bool (decide (z < 0)), .slice a l c], .agg #[.bool (decide (s2 < 0)), .slice a2 l2 c2]] W (GivesZ zs W) from fun a l c a2 l2 c2 W h h2 => by rw [hzs]; exact bgMul_any z s2 _ _ _ _ _ _ W h h2 (by omega) (by omega))
  obtain ⟨v, hv⟩ : ∃ v, v = zs * ((4 : Int)) := ⟨_, rfl⟩
  have hkv := dg_len ((4 : Int)).natAbs (by omega)
  have hlv : (dg v.natAbs).length ≤ 332 := by rw [hv]; have := dg_len_mul zs ((4 : Int)); omega
  have Cv := Lib.hid (show ∀ a l c W, Ints W (.slice a l c) (dg zs.natAbs) → Calls Try.prog 100 #[.agg #[.bool (decide (zs < 0)), .slice a l c], .int .i64 ((4 : Int))] W (GivesZ v W) from fun a l c W h => by rw [hv]; exact bgTimes_any zs ((4 : Int)) (by omega) (by omega) _ _ _ W h (by omega))
  have hv2 : denP A B x z = v := by subst hv hzs hs2 hbb hzz2 hs1 hax hxz2 hx3 hx2 hz2; unfold denP; grind
  rw [hv2]
  have kx := WZ.mk' x
  have kz := WZ.mk' z
  have kz2 := WZ.mk' z2
  have kx2 := WZ.mk' x2
  have kx3 := WZ.mk' x3
  have kxz2 := WZ.mk' xz2
  have kax := WZ.mk' ax
  have ks1 := WZ.mk' s1
  have kzz2 := WZ.mk' zz2
  have kbb := WZ.mk' bb
  have ks2 := WZ.mk' s2
  have kzs := WZ.mk' zs
  have kv := WZ.mk' v
  have HX := Lib.hid hx; have HZ := Lib.hid hz
  clear hv2 hx hz lx lz hAA hA hB hv hlv hkv hzs hlzs hs2 hls2 hbb hlbb hkbb hzz2 hlzz2 hs1 hls1 hax hlax hkax hxz2 hlxz2 hx3 hlx3 hx2 hlx2 hz2 hlz2
  unfold GivesZ at *
  generalize dg x.natAbs = Dx at *
  generalize decide (x < 0) = nx at *
  generalize dg z.natAbs = Dz at *
  generalize decide (z < 0) = nz at *
  generalize dg z2.natAbs = Dz2 at *
  generalize decide (z2 < 0) = nz2 at *
  generalize dg x2.natAbs = Dx2 at *
  generalize decide (x2 < 0) = nx2 at *
  generalize dg x3.natAbs = Dx3 at *
  generalize decide (x3 < 0) = nx3 at *
  generalize dg xz2.natAbs = Dxz2 at *
  generalize decide (xz2 < 0) = nxz2 at *
  generalize dg ax.natAbs = Dax at *
  generalize decide (ax < 0) = nax at *
  generalize dg s1.natAbs = Ds1 at *
  generalize decide (s1 < 0) = ns1 at *
  generalize dg zz2.natAbs = Dzz2 at *
  generalize decide (zz2 < 0) = nzz2 at *
  generalize dg bb.natAbs = Dbb at *
  generalize decide (bb < 0) = nbb at *
  generalize dg s2.natAbs = Ds2 at *
  generalize decide (s2 < 0) = ns2 at *
  generalize dg zs.natAbs = Dzs at *
  generalize decide (zs < 0) = nzs at *
  generalize dg v.natAbs = Dv at *
  generalize decide (v < 0) = nv at *
  go_enter Try.func69, Try.ntmps69
  go_upto_region 1 with fail
  go_cut [5, 6] (fun s5 s6 wx => ∃ (bx bz : Nat), s5 = .pointer (some ⟨bx, 0, none⟩) ∧ s6 = .pointer (some ⟨bz, 0, none⟩) ∧ Box wx (w.heap.size) [.int .i64 A, .int .i64 B] ∧ Box wx (w.heap.size + 1 + 1) [.bool false, .slice none 0 0] ∧ Box wx bx [.bool nx, .slice a1 l1 c1] ∧ Box wx bz [.bool nz, .slice a2 l2 c2] ∧ w.heap.size + 1 + 1 < bx ∧ w.heap.size + 1 + 1 < bz ∧ Below w.heap.size w wx)
  case first =>
    go_region
    all_goals (go_wp2_with fail; go_meet; exact ⟨_, _, rfl, rfl, box_two (by first | omega | (simp; done) | (simp; omega)) (by simp [go_sem]) (by simp [go_sem]) (fun o => by simp [go_sem]), box_two (by first | omega | (simp; done) | (simp; omega)) (by simp [go_sem]) (by simp [go_sem]) (fun o => by simp [go_sem]), box_two (by first | omega | (simp; done) | (simp; omega)) (by simp [go_sem]) (by simp [go_sem]) (fun o => by simp [go_sem]), box_two (by first | omega | (simp; done) | (simp; omega)) (by simp [go_sem]) (by simp [go_sem]) (fun o => by simp [go_sem]), (by first | omega | (simp; done) | (simp; omega)), (by first | omega | (simp; done) | (simp; omega)), (by repeat' (first | (with_reducible exact Below.refl _ _) | (with_reducible assumption) | (with_reducible refine Below.alloc ?_ ?_ _) | (with_reducible refine Below.setCell ?_ ?_ _) | (with_reducible refine Below.drew ?_) | (with_reducible refine below_drewN ?_ _) | (apply bthen2; (with_reducible assumption)) | go_size))⟩)
  case rest =>
  obtain ⟨bx, bz, rfl, rfl, Bc, BR, Bx, Bz, hRx, hRz, hB⟩ := hcut
  obtain ⟨W1, hW⟩ : ∃ x, x = wc := ⟨_, rfl⟩
  subst hW
  have Ix := HX.out.below hB
  have Iz := HZ.out.below hB
  have hl_c := Bc.1
  have hl_R := BR.1
  have hl_x := Bx.1
  have hl_z := Bz.1
  go_upto_region 2 with fail
  go_cut [7] (fun s7 wx => ∃ (bn : Nat) (a : Option Addr) (l c : Nat), s7 = .pointer (some ⟨bn, 0, none⟩) ∧ Box wx bn [.bool nz2, .slice a l c] ∧ Ints wx (.slice a l c) Dz2 ∧ W1.heap.size ≤ bn ∧ Below W1.heap.size W1 wx)
  case first =>
    have ez0 := Bz.2.1 0 _ rfl
    have ez1 := Bz.2.1 1 _ rfl
    have ezf := Bz.2.2
    have ezl := Bz.1
    have tok1 := True.intro
    go_wp2_with fail
    (go_at_call 98; clear tok1; refine (Cz2.out _ _ _ _ ?_).mono ?_; (focus (exact (by refine Ints.below Iz ?_; repeat' (first | (with_reducible exact Below.refl _ _) | (with_reducible assumption) | (with_reducible refine Below.alloc ?_ ?_ _) | (with_reducible refine Below.setCell ?_ ?_ _) | (with_reducible refine Below.drew ?_) | (with_reducible refine below_drewN ?_ _) | (apply bthen2; (with_reducible assumption)) | go_size)))); rintro e u1 ⟨az2_, lz2_, cz2_, rfl, oz2, hb1⟩; have hz1 := hb1.size; (try simp only [World.size_alloc, World.size_setCell, World.size_drew, World.heap_drewN] at hz1); have iz2 := oz2.ints; (try (have qB := Box.below (by first | (with_reducible exact box_made2 _ _ _ _) | (with_reducible assumption) | (with_reducible exact Box.alloc (box_made2 _ _ _ _) _) | (have hq := qB; exact hq.alloc _)) hb1; (try simp only [World.size_alloc, World.size_drew, World.heap_drewN] at qB); have qB0 := qB.2.1 0 _ rfl; have qB1 := qB.2.1 1 _ rfl; have qBf := qB.2.2)); obtain ⟨loz, hiz, sgz, hlz, hhz⟩ := Own.segL oz2; (try simp only [World.size_alloc, World.size_setCell, World.size_drew, World.heap_drewN] at hlz))
    have Pz1 := Box.below (show Box _ (bz) [.bool nz, .slice a2 l2 c2] from (by (repeat' (first | (with_reducible assumption) | (with_reducible refine Box.alloc ?_ _) | (with_reducible refine Box.drew ?_))))) hb1
    clear ez0 ez1 ezf ezl
    have ez0 := Pz1.2.1 0 _ rfl
    have ez1 := Pz1.2.1 1 _ rfl
    have ezf := Pz1.2.2
    have ezl := Pz1.1
    all_goals (go_wp2_with fail; go_meet; exact ⟨_, az2_, lz2_, cz2_, rfl, (by first | (with_reducible exact box_made2 _ _ _ _) | (exact Box.set (Box.set (vs := [_, _]) (by first | assumption | exact box_made2 _ _ _ _) 0 (by simp) _) 1 (by simp) _)), Seg.ints (lo := loz) (hi := hiz) (by (repeat' (first | (with_reducible assumption) | (with_reducible refine Seg.set ?_ ?_ _) | (with_reducible refine Seg.alloc ?_ _) | (with_reducible refine Seg.drew ?_))); all_goals (first | omega | (simp; done) | (simp; omega))), (by first | omega | (simp; done) | (simp; omega)), (by repeat' (first | (with_reducible exact Below.refl _ _) | (with_reducible assumption) | (with_reducible refine Below.alloc ?_ ?_ _) | (with_reducible refine Below.setCell ?_ ?_ _) | (with_reducible refine Below.drew ?_) | (with_reducible refine below_drewN ?_ _) | (apply bthen2; (with_reducible assumption)) | go_size))⟩)
  case rest =>
  obtain ⟨b_z2, az2_, lz2_, cz2_, rfl, Bn1, In1, hn1, hb⟩ := hcut
  have hq_c_z2 : w.heap.size < b_z2 := by omega
  have hq_R_z2 : w.heap.size + 1 + 1 < b_z2 := by omega
  have hq_x_z2 : bx < b_z2 := by omega
  have hq_z_z2 : bz < b_z2 := by omega
  obtain ⟨W2, hW⟩ : ∃ x, x = wc := ⟨_, rfl⟩
  subst hW
  have BcW2 := Bc.below hb
  have BRW2 := BR.below hb
  have BxW2 := Bx.below hb
  have BzW2 := Bz.below hb
  have IxW2 := Ix.below hb
  have IzW2 := Iz.below hb
  have hB := hB.trans (hb.mono hB.size)
  clear Bc BR Bx Bz Ix Iz hb
  replace hl_c := BcW2.1
  replace hl_R := BRW2.1
  replace hl_x := BxW2.1
  replace hl_z := BzW2.1
  have hl_z2 := Bn1.1
  go_upto_region 3 with fail
  go_cut [8] (fun s8 wx => ∃ (bn : Nat) (a : Option Addr) (l c : Nat), s8 = .pointer (some ⟨bn, 0, none⟩) ∧ Box wx bn [.bool ns1, .slice a l c] ∧ Ints wx (.slice a l c) Ds1 ∧ W2.heap.size ≤ bn ∧ Below W2.heap.size W2 wx)
  case first =>
    have HBcW2 := Lib.hid BcW2
    have HBRW2 := Lib.hid BRW2
    have HBxW2 := Lib.hid BxW2
    have HBzW2 := Lib.hid BzW2
    have HBn1 := Lib.hid Bn1
    clear BcW2 BRW2 BxW2 BzW2 Bn1
    clear Cz2 Czz2 Cbb Cs2 Czs Cv kz2 kx2 kx3 kxz2 kax ks1 kzz2 kbb ks2 kzs kv kx kz
    have tok1 := True.intro
    have tok2 := True.intro
    have tok3 := True.intro
    have tok4 := True.intro
    have tok5 := True.intro
    go_region_held3 (fun w' => Below W2.heap.size W2 w' ∧ w'.cell? ⟨w.heap.size, 0, none⟩ = some (.int .i64 A) ∧ w'.cell? ⟨w.heap.size, 1, none⟩ = some (.int .i64 B) ∧ w'.cell? ⟨bx, 0, none⟩ = some (.bool nx) ∧ w'.cell? ⟨bx, 1, none⟩ = some (.slice a1 l1 c1) ∧ w'.cell? ⟨b_z2, 0, none⟩ = some (.bool nz2) ∧ w'.cell? ⟨b_z2, 1, none⟩ = some (.slice az2_ lz2_ cz2_)) ((refine (fun hK => And.intro hK (by exact ⟨(hK.cell (p := ⟨w.heap.size, 0, none⟩) HBcW2.out.1).trans (HBcW2.out.2.1 0 _ rfl), (hK.cell (p := ⟨w.heap.size, 1, none⟩) HBcW2.out.1).trans (HBcW2.out.2.1 1 _ rfl), (hK.cell (p := ⟨bx, 0, none⟩) HBxW2.out.1).trans (HBxW2.out.2.1 0 _ rfl), (hK.cell (p := ⟨bx, 1, none⟩) HBxW2.out.1).trans (HBxW2.out.2.1 1 _ rfl), (hK.cell (p := ⟨b_z2, 0, none⟩) HBn1.out.1).trans (HBn1.out.2.1 0 _ rfl), (hK.cell (p := ⟨b_z2, 1, none⟩) HBn1.out.1).trans (HBn1.out.2.1 1 _ rfl)⟩)) ?_; repeat' (first | (with_reducible exact Below.refl _ _) | (with_reducible assumption) | (with_reducible refine Below.alloc ?_ ?_ _) | (with_reducible refine Below.setCell ?_ ?_ _) | (with_reducible refine Below.drew ?_) | (with_reducible refine below_drewN ?_ _) | (apply bthen2; (with_reducible assumption)) | go_size))) ((first | (go_at_call 98; clear tok1; refine (Cx2.out _ _ _ _ ?_).mono ?_; (focus (exact (by refine Ints.below IxW2 ?_; repeat' (first | (with_reducible exact Below.refl _ _) | (with_reducible assumption) | (with_reducible refine Below.alloc ?_ ?_ _) | (with_reducible refine Below.setCell ?_ ?_ _) | (with_reducible refine Below.drew ?_) | (with_reducible refine below_drewN ?_ _) | (apply bthen2; (with_reducible assumption)) | go_size)))); rintro e u1 ⟨ax2_, lx2_, cx2_, rfl, ox2, hb1⟩; have hz1 := hb1.size; (try simp only [World.size_alloc, World.size_setCell, World.size_drew, World.heap_drewN] at hz1); have ix2 := ox2.ints; (first | (have q_ := g1; clear q_; (try (first | (have q_ := Box.below g1 hb1) | (with_reducible have q_ := Box.below (Box.alloc g1 _) hb1) | (with_reducible have q_ := Box.below (Box.alloc (Box.alloc g1 _) _) hb1)); clear g1; have g1 := q_; clear q_)) | (with_reducible have g1 := Box.below (Box.drew (Box.alloc (box_made2 _ _ _ _) _)) hb1; (try simp only [World.size_alloc, World.size_drew, World.heap_drewN] at g1)) | (with_reducible have g1 := Box.below (Box.drew (box_made2 _ _ _ _)) hb1; (try simp only [World.size_alloc, World.size_drew, World.heap_drewN] at g1)) | skip); (try (have g1a := g1.2.1 0 _ rfl; have g1b := g1.2.1 1 _ rfl; have g1c := g1.2.2; have g1d := g1.1))) | (go_at_call 64; clear tok2; refine (Cx3.out _ _ _ _ _ _ _ ?_ ?_).mono ?_; (focus (exact (by refine Ints.below ix2 ?_; repeat' (first | (with_reducible exact Below.refl _ _) | (with_reducible assumption) | (with_reducible refine Below.alloc ?_ ?_ _) | (with_reducible refine Below.setCell ?_ ?_ _) | (with_reducible refine Below.drew ?_) | (with_reducible refine below_drewN ?_ _) | (apply bthen2; (with_reducible assumption)) | go_size)))); (focus (exact (by refine Ints.below IxW2 ?_; repeat' (first | (with_reducible exact Below.refl _ _) | (with_reducible assumption) | (with_reducible refine Below.alloc ?_ ?_ _) | (with_reducible refine Below.setCell ?_ ?_ _) | (with_reducible refine Below.drew ?_) | (with_reducible refine below_drewN ?_ _) | (apply bthen2; (with_reducible assumption)) | go_size)))); rintro e u2 ⟨ax3_, lx3_, cx3_, rfl, ox3, hb2⟩; have hz2 := hb2.size; (try simp only [World.size_alloc, World.size_setCell, World.size_drew, World.heap_drewN] at hz2); have ix3 := ox3.ints; (first | (have q_ := g1; clear q_; (try (first | (have q_ := Box.below g1 hb2) | (with_reducible have q_ := Box.below (Box.alloc g1 _) hb2) | (with_reducible have q_ := Box.below (Box.alloc (Box.alloc g1 _) _) hb2)); clear g1; have g1 := q_; clear q_)) | (with_reducible have g1 := Box.below (Box.alloc (box_made2 _ _ _ _) _) hb2; (try simp only [World.size_alloc, World.size_drew, World.heap_drewN] at g1)) | (with_reducible have g1 := Box.below (box_made2 _ _ _ _) hb2; (try simp only [World.size_alloc, World.size_drew, World.heap_drewN] at g1)) | skip); (try (have g1a := g1.2.1 0 _ rfl; have g1b := g1.2.1 1 _ rfl; have g1c := g1.2.2; have g1d := g1.1))) | (go_at_call 64; clear tok3; refine (Cxz2.out _ _ _ _ _ _ _ ?_ ?_).mono ?_; (focus (exact (by refine Ints.below IxW2 ?_; repeat' (first | (with_reducible exact Below.refl _ _) | (with_reducible assumption) | (with_reducible refine Below.alloc ?_ ?_ _) | (with_reducible refine Below.setCell ?_ ?_ _) | (with_reducible refine Below.drew ?_) | (with_reducible refine below_drewN ?_ _) | (apply bthen2; (with_reducible assumption)) | go_size)))); (focus (exact (by refine Ints.below In1 ?_; repeat' (first | (with_reducible exact Below.refl _ _) | (with_reducible assumption) | (with_reducible refine Below.alloc ?_ ?_ _) | (with_reducible refine Below.setCell ?_ ?_ _) | (with_reducible refine Below.drew ?_) | (with_reducible refine below_drewN ?_ _) | (apply bthen2; (with_reducible assumption)) | go_size)))); rintro e u3 ⟨axz2_, lxz2_, cxz2_, rfl, oxz2, hb3⟩; have hz3 := hb3.size; (try simp only [World.size_alloc, World.size_setCell, World.size_drew, World.heap_drewN] at hz3); have ixz2 := oxz2.ints; (first | (have q_ := g1; clear q_; (try (first | (have q_ := Box.below g1 hb3) | (with_reducible have q_ := Box.below (Box.alloc g1 _) hb3) | (with_reducible have q_ := Box.below (Box.alloc (Box.alloc g1 _) _) hb3)); clear g1; have g1 := q_; clear q_)) | (with_reducible have g1 := Box.below (Box.alloc (box_made2 _ _ _ _) _) hb3; (try simp only [World.size_alloc, World.size_drew, World.heap_drewN] at g1)) | (with_reducible have g1 := Box.below (box_made2 _ _ _ _) hb3; (try simp only [World.size_alloc, World.size_drew, World.heap_drewN] at g1)) | skip); (try (have g1a := g1.2.1 0 _ rfl; have g1b := g1.2.1 1 _ rfl; have g1c := g1.2.2; have g1d := g1.1))) | ((try simp only [IntWalk.i64_left]); go_at_call 100; clear tok4; refine (Cax.out _ _ _ _ ?_).mono ?_; (focus (exact (by refine Ints.below ixz2 ?_; repeat' (first | (with_reducible exact Below.refl _ _) | (with_reducible assumption) | (with_reducible refine Below.alloc ?_ ?_ _) | (with_reducible refine Below.setCell ?_ ?_ _) | (with_reducible refine Below.drew ?_) | (with_reducible refine below_drewN ?_ _) | (apply bthen2; (with_reducible assumption)) | go_size)))); rintro e u4 ⟨aax_, lax_, cax_, rfl, oax, hb4⟩; have hz4 := hb4.size; (try simp only [World.size_alloc, World.size_setCell, World.size_drew, World.heap_drewN] at hz4); have iax := oax.ints; (first | (have q_ := g1; clear q_; (try (first | (have q_ := Box.below g1 hb4) | (with_reducible have q_ := Box.below (Box.alloc g1 _) hb4) | (with_reducible have q_ := Box.below (Box.alloc (Box.alloc g1 _) _) hb4)); clear g1; have g1 := q_; clear q_)) | (with_reducible have g1 := Box.below (Box.alloc (box_made2 _ _ _ _) _) hb4; (try simp only [World.size_alloc, World.size_drew, World.heap_drewN] at g1)) | (with_reducible have g1 := Box.below (box_made2 _ _ _ _) hb4; (try simp only [World.size_alloc, World.size_drew, World.heap_drewN] at g1)) | skip); (try (have g1a := g1.2.1 0 _ rfl; have g1b := g1.2.1 1 _ rfl; have g1c := g1.2.2; have g1d := g1.1))) | (go_at_call 99; clear tok5; refine (Cs1.out _ _ _ _ _ _ _ ?_ ?_).mono ?_; (focus (exact (by refine Ints.below ix3 ?_; repeat' (first | (with_reducible exact Below.refl _ _) | (with_reducible assumption) | (with_reducible refine Below.alloc ?_ ?_ _) | (with_reducible refine Below.setCell ?_ ?_ _) | (with_reducible refine Below.drew ?_) | (with_reducible refine below_drewN ?_ _) | (apply bthen2; (with_reducible assumption)) | go_size)))); (focus (exact (by refine Ints.below iax ?_; repeat' (first | (with_reducible exact Below.refl _ _) | (with_reducible assumption) | (with_reducible refine Below.alloc ?_ ?_ _) | (with_reducible refine Below.setCell ?_ ?_ _) | (with_reducible refine Below.drew ?_) | (with_reducible refine below_drewN ?_ _) | (apply bthen2; (with_reducible assumption)) | go_size)))); rintro e u5 ⟨as1_, ls1_, cs1_, rfl, os1, hb5⟩; have hz5 := hb5.size; (try simp only [World.size_alloc, World.size_setCell, World.size_drew, World.heap_drewN] at hz5); have is1 := os1.ints; (first | (have q_ := g1; clear q_; (try (first | (have q_ := Box.below g1 hb5) | (with_reducible have q_ := Box.below (Box.alloc g1 _) hb5) | (with_reducible have q_ := Box.below (Box.alloc (Box.alloc g1 _) _) hb5)); clear g1; have g1 := q_; clear q_)) | (with_reducible have g1 := Box.below (Box.alloc (box_made2 _ _ _ _) _) hb5; (try simp only [World.size_alloc, World.size_drew, World.heap_drewN] at g1)) | (with_reducible have g1 := Box.below (box_made2 _ _ _ _) hb5; (try simp only [World.size_alloc, World.size_drew, World.heap_drewN] at g1)) | skip); (try (have g1a := g1.2.1 0 _ rfl; have g1b := g1.2.1 1 _ rfl; have g1c := g1.2.2; have g1d := g1.1)))))
    all_goals (go_wp2_with fail; go_meet; first | (with_reducible refine ⟨_, as1_, ls1_, cs1_, rfl, fresh_leafA ?_ ?_ ?_⟩; (focus (first | omega | (simp; done) | (simp; omega))); (focus (refine Ints.below is1 ?_; repeat' (first | (with_reducible exact Below.refl _ _) | (with_reducible assumption) | (with_reducible refine Below.alloc ?_ ?_ _) | (with_reducible refine Below.setCell ?_ ?_ _) | (with_reducible refine Below.drew ?_) | (with_reducible refine below_drewN ?_ _) | (apply bthen2; (with_reducible assumption)) | go_size))); (focus (repeat' (first | (with_reducible exact Below.refl _ _) | (with_reducible assumption) | (with_reducible refine Below.alloc ?_ ?_ _) | (with_reducible refine Below.setCell ?_ ?_ _) | (with_reducible refine Below.drew ?_) | (with_reducible refine below_drewN ?_ _) | (apply bthen2; (with_reducible assumption)) | go_size)))) | (with_reducible refine ⟨_, as1_, ls1_, cs1_, rfl, fresh_leaf ?_ ?_ ?_ ?_⟩; (focus (first | omega | (simp; done) | (simp; omega))); (focus (refine Ints.below is1 ?_; repeat' (first | (with_reducible exact Below.refl _ _) | (with_reducible assumption) | (with_reducible refine Below.alloc ?_ ?_ _) | (with_reducible refine Below.setCell ?_ ?_ _) | (with_reducible refine Below.drew ?_) | (with_reducible refine below_drewN ?_ _) | (apply bthen2; (with_reducible assumption)) | go_size))); (focus (repeat' (first | (with_reducible exact Below.refl _ _) | (with_reducible assumption) | (with_reducible refine Below.alloc ?_ ?_ _) | (with_reducible refine Below.setCell ?_ ?_ _) | (with_reducible refine Below.drew ?_) | (with_reducible refine below_drewN ?_ _) | (apply bthen2; (with_reducible assumption)) | go_size))); (focus ((repeat' (first | (with_reducible assumption) | (with_reducible exact box_made2 _ _ _ _) | (refine box_made2' _ _ _ _ (by first | rfl | (simp; done))) | (with_reducible refine Box.alloc ?_ _) | (with_reducible refine Box.drew ?_)))))))
  case rest =>
  obtain ⟨b_s1, as1_, ls1_, cs1_, rfl, Bn2, In2, hn2, hb⟩ := hcut
  have hq_c_s1 : w.heap.size < b_s1 := by omega
  have hq_R_s1 : w.heap.size + 1 + 1 < b_s1 := by omega
  have hq_x_s1 : bx < b_s1 := by omega
  have hq_z_s1 : bz < b_s1 := by omega
  have hq_z2_s1 : b_z2 < b_s1 := by omega
  obtain ⟨W3, hW⟩ : ∃ x, x = wc := ⟨_, rfl⟩
  subst hW
  have BcW3 := BcW2.below hb
  have BRW3 := BRW2.below hb
  have BxW3 := BxW2.below hb
  have BzW3 := BzW2.below hb
  have Bz2W3 := Bn1.below hb
  have IxW3 := IxW2.below hb
  have IzW3 := IzW2.below hb
  have Iz2W3 := In1.below hb
  have hB := hB.trans (hb.mono hB.size)
  clear BcW2 BRW2 BxW2 BzW2 Bn1 IxW2 IzW2 In1 hb
  replace hl_c := BcW3.1
  replace hl_R := BRW3.1
  replace hl_x := BxW3.1
  replace hl_z := BzW3.1
  replace hl_z2 := Bz2W3.1
  have hl_s1 := Bn2.1
  go_upto_region 4 with fail
  go_cut [] (fun wx => ∃ (W0 : World) (a : Option Addr) (l c : Nat), Below W3.heap.size W3 W0 ∧ Ints W0 (.slice a l c) Ds2 ∧ wx = sto W0 (b_s1) ns2 (.slice a l c))
  case first =>
    clear Cz2 Cx2 Cx3 Cxz2 Cax Cs1 Czs Cv kz2 kx2 kx3 kxz2 kax ks1 kzz2 kbb ks2 kzs kv kx kz
    have tok1 := True.intro
    have tok2 := True.intro
    have tok3 := True.intro
    have qT := Bn2
    have qT0 := qT.2.1 0 _ rfl
    have qT1 := qT.2.1 1 _ rfl
    have qTf := qT.2.2
    have qTl := qT.1
    refine wp_region_x (fun w' => Below W3.heap.size W3 w' ∧ w'.cell? ⟨w.heap.size, 0, none⟩ = some (.int .i64 A) ∧ w'.cell? ⟨w.heap.size, 1, none⟩ = some (.int .i64 B) ∧ w'.cell? ⟨bz, 0, none⟩ = some (.bool nz) ∧ w'.cell? ⟨bz, 1, none⟩ = some (.slice a2 l2 c2) ∧ w'.cell? ⟨b_z2, 0, none⟩ = some (.bool nz2) ∧ w'.cell? ⟨b_z2, 1, none⟩ = some (.slice az2_ lz2_ cz2_) ∧ w'.cell? ⟨b_s1, 0, none⟩ = some (.bool ns1) ∧ w'.cell? ⟨b_s1, 1, none⟩ = some (.slice as1_ ls1_ cs1_)) (fun i => decide (i < 8)) (by kernel_rfl) ?_ (fun hHeld => ?_)
    focus ((try dsimp only); (refine (fun hbK => And.intro hbK (by exact ⟨(hbK.cell (p := ⟨w.heap.size, 0, none⟩) BcW3.1).trans (BcW3.2.1 0 _ rfl), (hbK.cell (p := ⟨w.heap.size, 1, none⟩) BcW3.1).trans (BcW3.2.1 1 _ rfl), (hbK.cell (p := ⟨bz, 0, none⟩) BzW3.1).trans (BzW3.2.1 0 _ rfl), (hbK.cell (p := ⟨bz, 1, none⟩) BzW3.1).trans (BzW3.2.1 1 _ rfl), (hbK.cell (p := ⟨b_z2, 0, none⟩) Bz2W3.1).trans (Bz2W3.2.1 0 _ rfl), (hbK.cell (p := ⟨b_z2, 1, none⟩) Bz2W3.1).trans (Bz2W3.2.1 1 _ rfl), (hbK.cell (p := ⟨b_s1, 0, none⟩) Bn2.1).trans (Bn2.2.1 0 _ rfl), (hbK.cell (p := ⟨b_s1, 1, none⟩) Bn2.1).trans (Bn2.2.1 1 _ rfl)⟩)) ?_; repeat' (first | (with_reducible exact Below.refl _ _) | (with_reducible assumption) | (with_reducible refine Below.alloc ?_ ?_ _) | (with_reducible refine Below.setCell ?_ ?_ _) | (with_reducible refine Below.drew ?_) | (with_reducible refine below_drewN ?_ _) | (apply bthen2; (with_reducible assumption)) | go_size)))
    refine wpAnyX_take (v := ?_) 0 rfl (by kernel_rfl) (by kernel_rfl) (by kernel_rfl) (by kernel_rfl) (by kernel_rfl) (fun _ _ _ h => h) (by rfl) ?_ (by assumption) ?_
    rotate_left
    focus (intro w hSw; (try dsimp only at hSw); go_simp; (try with_reducible rfl))
    (try simp only [Act.put, List.setIfInBounds_toArray, List.set_cons_zero, List.set_cons_succ])
    refine wpAnyX_take (v := ?_) 1 rfl (by kernel_rfl) (by kernel_rfl) (by kernel_rfl) (by kernel_rfl) (by kernel_rfl) (fun _ _ _ h => h) (by rfl) ?_ (by assumption) ?_
    rotate_left
    focus (intro w hSw; (try dsimp only at hSw); go_simp; (try with_reducible rfl))
    (try simp only [Act.put, List.setIfInBounds_toArray, List.set_cons_zero, List.set_cons_succ])
    refine wpAnyX_take (v := ?_) 2 rfl (by kernel_rfl) (by kernel_rfl) (by kernel_rfl) (by kernel_rfl) (by kernel_rfl) (fun _ _ _ h => h) (by rfl) ?_ (by assumption) ?_
    rotate_left
    focus (intro w hSw; (try dsimp only at hSw); go_simp; (try with_reducible rfl))
    (try simp only [Act.put, List.setIfInBounds_toArray, List.set_cons_zero, List.set_cons_succ])
    refine wpAnyX_take (v := ?_) 4 rfl (by kernel_rfl) (by kernel_rfl) (by kernel_rfl) (by kernel_rfl) (by kernel_rfl) (fun _ _ _ h => h) (by rfl) ?_ (by assumption) ?_
    rotate_left
    focus (intro w hSw; (try dsimp only at hSw); go_simp; (try with_reducible rfl))
    (try simp only [Act.put, List.setIfInBounds_toArray, List.set_cons_zero, List.set_cons_succ])
    refine wpAnyX_take (v := ?_) 5 rfl (by kernel_rfl) (by kernel_rfl) (by kernel_rfl) (by kernel_rfl) (by kernel_rfl) (fun _ _ _ h => h) (by rfl) ?_ (by assumption) ?_
    rotate_left
    focus (intro w hSw; (try dsimp only at hSw); go_simp; (try with_reducible rfl))
    (try simp only [Act.put, List.setIfInBounds_toArray, List.set_cons_zero, List.set_cons_succ])
    refine wpAnyX_one 3 rfl (by kernel_rfl) (fun K hK => ?_)
    go_simp
    (go_at_call 64; clear tok1; refine (Czz2.out _ _ _ _ _ _ _ ?_ ?_).mono ?_; (focus (exact (by refine Ints.below IzW3 ?_; repeat' (first | (with_reducible exact Below.refl _ _) | (with_reducible assumption) | (with_reducible refine Below.alloc ?_ ?_ _) | (with_reducible refine Below.setCell ?_ ?_ _) | (with_reducible refine Below.drew ?_) | (with_reducible refine below_drewN ?_ _) | (apply bthen2; (with_reducible assumption)) | go_size)))); (focus (exact (by refine Ints.below Iz2W3 ?_; repeat' (first | (with_reducible exact Below.refl _ _) | (with_reducible assumption) | (with_reducible refine Below.alloc ?_ ?_ _) | (with_reducible refine Below.setCell ?_ ?_ _) | (with_reducible refine Below.drew ?_) | (with_reducible refine below_drewN ?_ _) | (apply bthen2; (with_reducible assumption)) | go_size)))); rintro e u1 ⟨azz2_, lzz2_, czz2_, rfl, ozz2, hb1⟩; have hz1 := hb1.size; (try simp only [World.size_alloc, World.size_setCell, World.size_drew, World.heap_drewN] at hz1); have izz2 := ozz2.ints; have qT := Box.below (show Box _ (b_s1) [.bool ns1, .slice as1_ ls1_ cs1_] from (by (repeat' (first | (with_reducible assumption) | (with_reducible refine Box.alloc ?_ _) | (with_reducible refine Box.drew ?_))))) hb1; have qT0 := qT.2.1 0 _ rfl; have qT1 := qT.2.1 1 _ rfl; have qTf := qT.2.2; have qTl := qT.1)
    go_wp2_with fail
    clear hHeld
    refine hK.out _ _ ?_ (fun hHeld => ?_)
    focus ((try dsimp only); (refine (fun hbK => And.intro hbK (by exact ⟨(hbK.cell (p := ⟨w.heap.size, 0, none⟩) BcW3.1).trans (BcW3.2.1 0 _ rfl), (hbK.cell (p := ⟨w.heap.size, 1, none⟩) BcW3.1).trans (BcW3.2.1 1 _ rfl), (hbK.cell (p := ⟨bz, 0, none⟩) BzW3.1).trans (BzW3.2.1 0 _ rfl), (hbK.cell (p := ⟨bz, 1, none⟩) BzW3.1).trans (BzW3.2.1 1 _ rfl), (hbK.cell (p := ⟨b_z2, 0, none⟩) Bz2W3.1).trans (Bz2W3.2.1 0 _ rfl), (hbK.cell (p := ⟨b_z2, 1, none⟩) Bz2W3.1).trans (Bz2W3.2.1 1 _ rfl), (hbK.cell (p := ⟨b_s1, 0, none⟩) Bn2.1).trans (Bn2.2.1 0 _ rfl), (hbK.cell (p := ⟨b_s1, 1, none⟩) Bn2.1).trans (Bn2.2.1 1 _ rfl)⟩)) ?_; repeat' (first | (with_reducible exact Below.refl _ _) | (with_reducible assumption) | (with_reducible refine Below.alloc ?_ ?_ _) | (with_reducible refine Below.setCell ?_ ?_ _) | (with_reducible refine Below.drew ?_) | (with_reducible refine below_drewN ?_ _) | (apply bthen2; (with_reducible assumption)) | go_size)))
    clear hK K
    (try simp only [Act.put, List.setIfInBounds_toArray, List.set_cons_zero, List.set_cons_succ])
    refine wpAnyX_one 6 rfl (by kernel_rfl) (fun K hK => ?_)
    go_simp
    ((try simp only [IntWalk.i64_left]); go_at_call 100; clear tok2; refine (Cbb.out _ _ _ _ ?_).mono ?_; (focus (exact (by refine Ints.below izz2 ?_; repeat' (first | (with_reducible exact Below.refl _ _) | (with_reducible assumption) | (with_reducible refine Below.alloc ?_ ?_ _) | (with_reducible refine Below.setCell ?_ ?_ _) | (with_reducible refine Below.drew ?_) | (with_reducible refine below_drewN ?_ _) | (apply bthen2; (with_reducible assumption)) | go_size)))); rintro e u2 ⟨abb_, lbb_, cbb_, rfl, obb, hb2⟩; have hz2 := hb2.size; (try simp only [World.size_alloc, World.size_setCell, World.size_drew, World.heap_drewN] at hz2); have ibb := obb.ints; have qT := Box.below (show Box _ (b_s1) [.bool ns1, .slice as1_ ls1_ cs1_] from (by (repeat' (first | (with_reducible assumption) | (with_reducible refine Box.alloc ?_ _) | (with_reducible refine Box.drew ?_))))) hb2; have qT0 := qT.2.1 0 _ rfl; have qT1 := qT.2.1 1 _ rfl; have qTf := qT.2.2; have qTl := qT.1)
    go_wp2_with fail
    clear hHeld
    refine hK.out _ _ ?_ (fun hHeld => ?_)
    focus ((try dsimp only); (refine (fun hbK => And.intro hbK (by exact ⟨(hbK.cell (p := ⟨w.heap.size, 0, none⟩) BcW3.1).trans (BcW3.2.1 0 _ rfl), (hbK.cell (p := ⟨w.heap.size, 1, none⟩) BcW3.1).trans (BcW3.2.1 1 _ rfl), (hbK.cell (p := ⟨bz, 0, none⟩) BzW3.1).trans (BzW3.2.1 0 _ rfl), (hbK.cell (p := ⟨bz, 1, none⟩) BzW3.1).trans (BzW3.2.1 1 _ rfl), (hbK.cell (p := ⟨b_z2, 0, none⟩) Bz2W3.1).trans (Bz2W3.2.1 0 _ rfl), (hbK.cell (p := ⟨b_z2, 1, none⟩) Bz2W3.1).trans (Bz2W3.2.1 1 _ rfl), (hbK.cell (p := ⟨b_s1, 0, none⟩) Bn2.1).trans (Bn2.2.1 0 _ rfl), (hbK.cell (p := ⟨b_s1, 1, none⟩) Bn2.1).trans (Bn2.2.1 1 _ rfl)⟩)) ?_; repeat' (first | (with_reducible exact Below.refl _ _) | (with_reducible assumption) | (with_reducible refine Below.alloc ?_ ?_ _) | (with_reducible refine Below.setCell ?_ ?_ _) | (with_reducible refine Below.drew ?_) | (with_reducible refine below_drewN ?_ _) | (apply bthen2; (with_reducible assumption)) | go_size)))
    clear hK K
    (try simp only [Act.put, List.setIfInBounds_toArray, List.set_cons_zero, List.set_cons_succ])
    refine wpAnyX_one 7 rfl (by kernel_rfl) (fun K hK => ?_)
    go_simp
    (go_at_call 99; clear tok3; refine (Cs2.out _ _ _ _ _ _ _ ?_ ?_).mono ?_; (focus (exact (by refine Ints.below In2 ?_; repeat' (first | (with_reducible exact Below.refl _ _) | (with_reducible assumption) | (with_reducible refine Below.alloc ?_ ?_ _) | (with_reducible refine Below.setCell ?_ ?_ _) | (with_reducible refine Below.drew ?_) | (with_reducible refine below_drewN ?_ _) | (apply bthen2; (with_reducible assumption)) | go_size)))); (focus (exact (by refine Ints.below ibb ?_; repeat' (first | (with_reducible exact Below.refl _ _) | (with_reducible assumption) | (with_reducible refine Below.alloc ?_ ?_ _) | (with_reducible refine Below.setCell ?_ ?_ _) | (with_reducible refine Below.drew ?_) | (with_reducible refine below_drewN ?_ _) | (apply bthen2; (with_reducible assumption)) | go_size)))); rintro e u3 ⟨as2_, ls2_, cs2_, rfl, os2, hb3⟩; have hz3 := hb3.size; (try simp only [World.size_alloc, World.size_setCell, World.size_drew, World.heap_drewN] at hz3); have is2 := os2.ints; have qT := Box.below (show Box _ (b_s1) [.bool ns1, .slice as1_ ls1_ cs1_] from (by (repeat' (first | (with_reducible assumption) | (with_reducible refine Box.alloc ?_ _) | (with_reducible refine Box.drew ?_))))) hb3; have qT0 := qT.2.1 0 _ rfl; have qT1 := qT.2.1 1 _ rfl; have qTf := qT.2.2; have qTl := qT.1)
    go_wp2_with fail
    clear hHeld
    refine hK.out _ _ ?_ (fun hHeld => ?_)
    focus ((try dsimp only); (refine (fun hbK => And.intro hbK (by exact ⟨(hbK.cell (p := ⟨w.heap.size, 0, none⟩) BcW3.1).trans (BcW3.2.1 0 _ rfl), (hbK.cell (p := ⟨w.heap.size, 1, none⟩) BcW3.1).trans (BcW3.2.1 1 _ rfl), (hbK.cell (p := ⟨bz, 0, none⟩) BzW3.1).trans (BzW3.2.1 0 _ rfl), (hbK.cell (p := ⟨bz, 1, none⟩) BzW3.1).trans (BzW3.2.1 1 _ rfl), (hbK.cell (p := ⟨b_z2, 0, none⟩) Bz2W3.1).trans (Bz2W3.2.1 0 _ rfl), (hbK.cell (p := ⟨b_z2, 1, none⟩) Bz2W3.1).trans (Bz2W3.2.1 1 _ rfl), (hbK.cell (p := ⟨b_s1, 0, none⟩) Bn2.1).trans (Bn2.2.1 0 _ rfl), (hbK.cell (p := ⟨b_s1, 1, none⟩) Bn2.1).trans (Bn2.2.1 1 _ rfl)⟩)) ?_; repeat' (first | (with_reducible exact Below.refl _ _) | (with_reducible assumption) | (with_reducible refine Below.alloc ?_ ?_ _) | (with_reducible refine Below.setCell ?_ ?_ _) | (with_reducible refine Below.drew ?_) | (with_reducible refine below_drewN ?_ _) | (apply bthen2; (with_reducible assumption)) | go_size)))
    clear hK K
    (try simp only [Act.put, List.setIfInBounds_toArray, List.set_cons_zero, List.set_cons_succ])
    refine wpAnyX_last 8 rfl (by kernel_rfl) rfl (fun K hK => ?_)
    go_simp
    refine hK.out _ _ ?_
    clear hK K
    (try simp only [Act.put, List.setIfInBounds_toArray, List.set_cons_zero, List.set_cons_succ])
    refine wpAnyX_done (by kernel_rfl) ?_ _
    refine NoPanic.normal ?_
    all_goals (go_wp2_with fail; go_meet; exact ⟨u3, as2_, ls2_, cs2_, (by repeat' (first | (with_reducible exact Below.refl _ _) | (with_reducible assumption) | (with_reducible refine Below.alloc ?_ ?_ _) | (with_reducible refine Below.setCell ?_ ?_ _) | (with_reducible refine Below.drew ?_) | (with_reducible refine below_drewN ?_ _) | (apply bthen2; (with_reducible assumption)) | go_size)), is2, rfl⟩)
  case rest =>
  obtain ⟨V4, as2_, ls2_, cs2_, hb, In3, rfl⟩ := hcut
  have BcV4 := BcW3.below hb
  have BRV4 := BRW3.below hb
  have BxV4 := BxW3.below hb
  have BzV4 := BzW3.below hb
  have Bz2V4 := Bz2W3.below hb
  have Bs1V4 := Bn2.below hb
  have IxV4 := IxW3.below hb
  have IzV4 := IzW3.below hb
  have Iz2V4 := Iz2W3.below hb
  have Is1V4 := In2.below hb
  have hB := hB.trans (hb.mono hB.size)
  clear BcW3 BRW3 BxW3 BzW3 Bz2W3 Bn2 IxW3 IzW3 Iz2W3 In2 hb
  replace hl_c := BcV4.1
  replace hl_R := BRV4.1
  replace hl_x := BxV4.1
  replace hl_z := BzV4.1
  replace hl_z2 := Bz2V4.1
  replace hl_s1 := Bs1V4.1
  obtain ⟨W4, hW⟩ : ∃ x, x = sto V4 (b_s1) ns2 (.slice as2_ ls2_ cs2_) := ⟨_, rfl⟩
  have BcW4 : Box W4 (w.heap.size) [.int .i64 A, .int .i64 B] := by rw [hW]; exact BcV4.sto_ne (by omega) _ _
  have BRW4 : Box W4 (w.heap.size + 1 + 1) [.bool false, .slice none 0 0] := by rw [hW]; exact BRV4.sto_ne (by omega) _ _
  have BxW4 : Box W4 (bx) [.bool nx, .slice a1 l1 c1] := by rw [hW]; exact BxV4.sto_ne (by omega) _ _
  have BzW4 : Box W4 (bz) [.bool nz, .slice a2 l2 c2] := by rw [hW]; exact BzV4.sto_ne (by omega) _ _
  have Bz2W4 : Box W4 (b_z2) [.bool nz2, .slice az2_ lz2_ cz2_] := by rw [hW]; exact Bz2V4.sto_ne (by omega) _ _
  have Bs1W4 : Box W4 (b_s1) [.bool ns2, .slice as2_ ls2_ cs2_] := by rw [hW]; exact Bs1V4.sto _ _
  have IxW4 : Ints W4 (.slice a1 l1 c1) Dx := by rw [hW]; exact IxV4.sto Bs1V4 _ _
  have IzW4 : Ints W4 (.slice a2 l2 c2) Dz := by rw [hW]; exact IzV4.sto Bs1V4 _ _
  have Iz2W4 : Ints W4 (.slice az2_ lz2_ cz2_) Dz2 := by rw [hW]; exact Iz2V4.sto Bs1V4 _ _
  have Is1W4 : Ints W4 (.slice as1_ ls1_ cs1_) Ds1 := by rw [hW]; exact Is1V4.sto Bs1V4 _ _
  have Is2W4 : Ints W4 (.slice as2_ ls2_ cs2_) Ds2 := by rw [hW]; exact In3.sto Bs1V4 _ _
  have hB : Below w.heap.size w W4 := by rw [hW]; exact below_sto hB (by omega) _ _
  rw [← hW]
  clear hW BcV4 BRV4 BxV4 BzV4 Bz2V4 Bs1V4 IxV4 IzV4 Iz2V4 Is1V4 In3
  replace hl_c := BcW4.1
  replace hl_R := BRW4.1
  replace hl_x := BxW4.1
  replace hl_z := BzW4.1
  replace hl_z2 := Bz2W4.1
  replace hl_s1 := Bs1W4.1
  have ez0 := BzW4.2.1 0 _ rfl
  have ez1 := BzW4.2.1 1 _ rfl
  have ezf := BzW4.2.2
  have ezl := BzW4.1
  have es10 := Bs1W4.2.1 0 _ rfl
  have es11 := Bs1W4.2.1 1 _ rfl
  have es1f := Bs1W4.2.2
  have es1l := Bs1W4.1
  have eR0 := BRW4.2.1 0 _ rfl
  have eR1 := BRW4.2.1 1 _ rfl
  have eRf := BRW4.2.2
  have eRl := BRW4.1
  have tok1 := True.intro
  go_wp2_with fail
  (go_at_call 64; clear tok1; refine (Czs.out _ _ _ _ _ _ _ ?_ ?_).mono ?_; (focus (exact (by refine Ints.below IzW4 ?_; repeat' (first | (with_reducible exact Below.refl _ _) | (with_reducible assumption) | (with_reducible refine Below.alloc ?_ ?_ _) | (with_reducible refine Below.setCell ?_ ?_ _) | (with_reducible refine Below.drew ?_) | (with_reducible refine below_drewN ?_ _) | (apply bthen2; (with_reducible assumption)) | go_size)))); (focus (exact (by refine Ints.below Is2W4 ?_; repeat' (first | (with_reducible exact Below.refl _ _) | (with_reducible assumption) | (with_reducible refine Below.alloc ?_ ?_ _) | (with_reducible refine Below.setCell ?_ ?_ _) | (with_reducible refine Below.drew ?_) | (with_reducible refine below_drewN ?_ _) | (apply bthen2; (with_reducible assumption)) | go_size)))); rintro e u1 ⟨azs_, lzs_, czs_, rfl, ozs, hb1⟩; have hz1 := hb1.size; (try simp only [World.size_alloc, World.size_setCell, World.size_drew, World.heap_drewN] at hz1); have izs := ozs.ints; skip)
  have Pz1 := Box.below (show Box _ (bz) [.bool nz, .slice a2 l2 c2] from (by (repeat' (first | (with_reducible assumption) | (with_reducible refine Box.alloc ?_ _) | (with_reducible refine Box.drew ?_))))) hb1
  have Ps11 := Box.below (show Box _ (b_s1) [.bool ns2, .slice as2_ ls2_ cs2_] from (by (repeat' (first | (with_reducible assumption) | (with_reducible refine Box.alloc ?_ _) | (with_reducible refine Box.drew ?_))))) hb1
  have PR1 := Box.below (show Box _ (w.heap.size + 1 + 1) [.bool false, .slice none 0 0] from (by (repeat' (first | (with_reducible assumption) | (with_reducible refine Box.alloc ?_ _) | (with_reducible refine Box.drew ?_))))) hb1
  clear ez0 ez1 ezf ezl es10 es11 es1f es1l eR0 eR1 eRf eRl
  have ez0 := Pz1.2.1 0 _ rfl
  have ez1 := Pz1.2.1 1 _ rfl
  have ezf := Pz1.2.2
  have ezl := Pz1.1
  have es10 := Ps11.2.1 0 _ rfl
  have es11 := Ps11.2.1 1 _ rfl
  have es1f := Ps11.2.2
  have es1l := Ps11.1
  have eR0 := PR1.2.1 0 _ rfl
  have eR1 := PR1.2.1 1 _ rfl
  have eRf := PR1.2.2
  have eRl := PR1.1
  have tok2 := True.intro
  go_wp2_with fail
  ((try simp only [IntWalk.i64_left]); go_at_call 100; clear tok2; refine (Cv.out _ _ _ _ ?_).mono ?_; (focus (exact (by refine Ints.below izs ?_; repeat' (first | (with_reducible exact Below.refl _ _) | (with_reducible assumption) | (with_reducible refine Below.alloc ?_ ?_ _) | (with_reducible refine Below.setCell ?_ ?_ _) | (with_reducible refine Below.drew ?_) | (with_reducible refine below_drewN ?_ _) | (apply bthen2; (with_reducible assumption)) | go_size)))); rintro e u2 ⟨av_, lv_, cv_, rfl, ov, hb2⟩; have hz2 := hb2.size; (try simp only [World.size_alloc, World.size_setCell, World.size_drew, World.heap_drewN] at hz2); have iv := ov.ints; skip)
  have Pz2 := Box.below (show Box _ (bz) [.bool nz, .slice a2 l2 c2] from (by (repeat' (first | (with_reducible assumption) | (with_reducible refine Box.alloc ?_ _) | (with_reducible refine Box.drew ?_))))) hb2
  have Ps12 := Box.below (show Box _ (b_s1) [.bool ns2, .slice as2_ ls2_ cs2_] from (by (repeat' (first | (with_reducible assumption) | (with_reducible refine Box.alloc ?_ _) | (with_reducible refine Box.drew ?_))))) hb2
  have PR2 := Box.below (show Box _ (w.heap.size + 1 + 1) [.bool false, .slice none 0 0] from (by (repeat' (first | (with_reducible assumption) | (with_reducible refine Box.alloc ?_ _) | (with_reducible refine Box.drew ?_))))) hb2
  clear ez0 ez1 ezf ezl es10 es11 es1f es1l eR0 eR1 eRf eRl
  have ez0 := Pz2.2.1 0 _ rfl
  have ez1 := Pz2.2.1 1 _ rfl
  have ezf := Pz2.2.2
  have ezl := Pz2.1
  have es10 := Ps12.2.1 0 _ rfl
  have es11 := Ps12.2.1 1 _ rfl
  have es1f := Ps12.2.2
  have es1l := Ps12.1
  have eR0 := PR2.2.1 0 _ rfl
  have eR1 := PR2.2.1 1 _ rfl
  have eRf := PR2.2.2
  have eRl := PR2.1
  all_goals
    go_wp2_with fail
    refine bodyPost_ret (v := .agg #[.bool nv, .slice av_ lv_ cv_]) (by simp [results, Try.results69, go_sem, eR0, eR1, eRf, eRl]) rfl ⟨_, _, _, rfl, ((ov.set (p := ⟨w.heap.size + 1 + 1, 0, none⟩) (by first | omega | (simp; done) | (simp; omega)) _).set (p := ⟨w.heap.size + 1 + 1, 1, none⟩) (by first | omega | (simp; done) | (simp; omega)) _).mono (by first | omega | (simp; done) | (simp; omega)), (by repeat' (first | (with_reducible exact Below.refl _ _) | (with_reducible assumption) | (with_reducible refine Below.alloc ?_ ?_ _) | (with_reducible refine Below.setCell ?_ ?_ _) | (with_reducible refine Below.drew ?_) | (with_reducible refine below_drewN ?_ _) | (apply bthen2; (with_reducible assumption)) | go_size))⟩

end Go.Proofs.Ytopdeoicglkbkaa
