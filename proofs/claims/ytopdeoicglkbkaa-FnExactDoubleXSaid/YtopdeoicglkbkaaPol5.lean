import Derived.Test.YtopdeoicglkbkaaPol2
import Derived.Test.YtopdeoicglkbkaaRegX
import Derived.Test.YtopdeoicglkbkaaPon
set_option linter.unusedSimpArgs false
set_option linter.unusedVariables false
namespace Go.Proofs.Ytopdeoicglkbkaa
open Go.RowKit
/-! ### the polynomials of doubling, on both sides -/

set_option maxRecDepth 100000 in
set_option maxHeartbeats 8000000 in
theorem xdTop_any (A B x z : Int) (hA : -1000 ≤ A ∧ A ≤ 1000) (hB : -10000 ≤ B ∧ B ≤ 10000) (a1 a2 : Option Addr) (l1 c1 l2 c2 : Nat) (w : World) (hx : Ints w (.slice a1 l1 c1) (dg x.natAbs)) (hz : Ints w (.slice a2 l2 c2) (dg z.natAbs)) (lx : (dg x.natAbs).length ≤ 80) (lz : (dg z.natAbs).length ≤ 80) :
    Calls Try.prog 77 #[.agg #[.int .i64 A, .int .i64 B], .agg #[.bool (decide (x < 0)), .slice a1 l1 c1, .bool (decide (z < 0)), .slice a2 l2 c2]] w (GivesZ (numP A B x z) w) := by
  have hAA : 0 ≤ A * A ∧ A * A ≤ 1000000 := by have := mul_rng (X := 1000) (Y := 1000) (by omega) (by omega) hA hA; exact ⟨by rw [← Int.natAbs_mul_self' A]; exact Int.mul_nonneg (by omega) (by omega), by omega⟩
  obtain ⟨x2, hx2⟩ : ∃ v, v = x * x := ⟨_, rfl⟩
  have hlx2 : (dg x2.natAbs).length ≤ 160 := by rw [hx2]; have := dg_len_mul x x; omega
  have Cx2 := Lib.hid (show ∀ a l c W, Ints W (.slice a l c) (dg x.natAbs) → Calls Try.prog 98 #[.agg #[.bool (decide (x < 0)), .slice a l c]] W (GivesZ x2 W) from fun a l c W h => by rw [hx2]; exact xdSquare_any x _ _ _ W h (by omega))
  obtain ⟨z2, hz2⟩ : ∃ v, v = z * z := ⟨_, rfl⟩
  have hlz2 : (dg z2.natAbs).length ≤ 160 := by rw [hz2]; have := dg_len_mul z z; omega
  have Cz2 := Lib.hid (show ∀ a l c W, Ints W (.slice a l c) (dg z.natAbs) → Calls Try.prog 98 #[.agg #[.bool (decide (z < 0)), .slice a l c]] W (GivesZ z2 W) from fun a l c W h => by rw [hz2]; exact xdSquare_any z _ _ _ W h (by omega))
  obtain ⟨x4, hx4⟩ : ∃ v, v = x2 * x2 := ⟨_, rfl⟩
  have hlx4 : (dg x4.natAbs).length ≤ 320 := by rw [hx4]; have := dg_len_mul x2 x2; omega
  have Cx4 := Lib.hid (show ∀ a l c W, Ints W (.slice a l c) (dg x2.natAbs) → Calls Try.prog 98 #[.agg #[.bool (decide (x2 < 0)), .slice a l c]] W (GivesZ x4 W) from fun a l c W h => by rw [hx4]; exact xdSquare_any x2 _ _ _ W h (by omega))
  obtain ⟨xz, hxz⟩ : ∃ v, v = x2 * z2 := ⟨_, rfl⟩
  have hlxz : (dg xz.natAbs).length ≤ 320 := by rw [hxz]; have := dg_len_mul x2 z2; omega
  have Cxz := Lib.hid (show ∀ a l c a2 l2 c2 W, Ints W (.slice a l c) (dg x2.natAbs) → Ints W (.slice a2 l2 c2) (dg z2.natAbs) → Calls Try.prog 64 #[.agg #[.bool (decide (x2 < 0)), .slice a l c], .agg #[.bool (decide (z2 < 0)), .slice a2 l2 c2]] W (GivesZ xz W) from fun a l c a2 l2 c2 W h h2 => by rw [hxz]; exact bgMul_any x2 z2 _ _ _ _ _ _ W h h2 (by omega) (by omega))
  obtain ⟨t1, ht1⟩ : ∃ v, v = xz * (2 * A) := ⟨_, rfl⟩
  have hkt1 := dg_len (2 * A).natAbs (by omega)
  have hlt1 : (dg t1.natAbs).length ≤ 325 := by rw [ht1]; have := dg_len_mul xz (2 * A); omega
  have kwt1 : wrap64 (2 * A) = 2 * A := win (by omega)
  have Ct1 := Lib.hid (show ∀ a l c W, Ints W (.slice a l c) (dg xz.natAbs) → Calls Try.prog 100 #[.agg #[.bool (decide (xz < 0)), .slice a l c], .int .i64 (2 * A)] W (GivesZ t1 W) from fun a l c W h => by rw [ht1]; exact bgTimes_any xz (2 * A) (by omega) (by omega) _ _ _ W h (by omega))
  obtain ⟨s1, hs1⟩ : ∃ v, v = x4 - t1 := ⟨_, rfl⟩
  have hls1 : (dg s1.natAbs).length ≤ 326 := by rw [hs1]; have := dg_len_sub x4 t1 (n := 325) (by omega) (by omega); omega
  have Cs1 := Lib.hid (show ∀ a l c a2 l2 c2 W, Ints W (.slice a l c) (dg x4.natAbs) → Ints W (.slice a2 l2 c2) (dg t1.natAbs) → Calls Try.prog 107 #[.agg #[.bool (decide (x4 < 0)), .slice a l c], .agg #[.bool (decide (t1 < 0)), .slice a2 l2 c2]] W (GivesZ s1 W) from fun a l c a2 l2 c2 W h h2 => by rw [hs1]; exact bgSub_any x4 t1 _ _ _ _ _ _ W h h2 (by omega) (by omega))
  obtain ⟨y1, hy1⟩ : ∃ v, v = x * z := ⟨_, rfl⟩
  have hly1 : (dg y1.natAbs).length ≤ 160 := by rw [hy1]; have := dg_len_mul x z; omega
  have Cy1 := Lib.hid (show ∀ a l c a2 l2 c2 W, Ints W (.slice a l c) (dg x.natAbs) → Ints W (.slice a2 l2 c2) (dg z.natAbs) → Calls Try.prog 64 #[.agg #[.bool (decide (x < 0)), .slice a l c], .agg #[.bool (decide (z < 0)), .slice a2 l2 c2]] W (GivesZ y1 W) from fun a l c a2 l2 c2 W h h2 => by rw [hy1]; exact bgMul_any x z _ _ _ _ _ _ W h h2 (by omega) (by omega))
  obtain ⟨y2, hy2⟩ : ∃ v, v = y1 * z2 := ⟨_, rfl⟩
  have hly2 : (dg y2.natAbs).length ≤ 320 := by rw [hy2]; have := dg_len_mul y1 z2; omega
  have Cy2 := Lib.hid (show ∀ a l c a2 l2 c2 W, Ints W (.slice a l c) (dg y1.natAbs) → Ints W (.slice a2 l2 c2) (dg z2.natAbs) → Calls Try.prog 64 #[.agg #[.bool (decide (y1 < 0)), .slice a l c], .agg #[.bool (decide (z2 < 0)), .slice a2 l2 c2]] W (GivesZ y2 W) from fun a l c a2 l2 c2 W h h2 => by rw [hy2]; exact bgMul_any y1 z2 _ _ _ _ _ _ W h h2 (by omega) (by omega))
  obtain ⟨t2, ht2⟩ : ∃ v, v = y2 * (8 * B) := ⟨_, rfl⟩
  have hkt2 := dg_len (8 * B).natAbs (by omega)
  have hlt2 : (dg t2.natAbs).length ≤ 325 := by rw [ht2]; have := dg_len_mul y2 (8 * B); omega
  have kwt2 : wrap64 (8 * B) = 8 * B := win (by omega)
  have Ct2 := Lib.hid (show ∀ a l c W, Ints W (.slice a l c) (dg y2.natAbs) → Calls Try.prog 100 #[.agg #[.bool (decide (y2 < 0)), .slice a l c], .int .i64 (8 * B)] W (GivesZ t2 W) from fun a l c W h => by rw [ht2]; exact bgTimes_any y2 (8 * B) (by omega) (by omega) _ _ _ W h (by omega))
  obtain ⟨s2, hs2⟩ : ∃ v, v = s1 - t2 := ⟨_, rfl⟩
  have hls2 : (dg s2.natAbs).length ≤ 327 := by rw [hs2]; have := dg_len_sub s1 t2 (n := 326) (by omega) (by omega); omega
  have Cs2 := Lib.hid (show ∀ a l c a2 l2 c2 W, Ints W (.slice a l c) (dg s1.natAbs) → Ints W (.slice a2 l2 c2) (dg t2.natAbs) → Calls Try.prog 107 #[.agg #[.bool (decide (s1 < 0)), .slice a l c], .agg #[.bool (decide (t2 < 0)), .slice a2 l2 c2]] W (GivesZ s2 W) from fun a l c a2 l2 c2 W h h2 => by rw [hs2]; exact bgSub_any s1 t2 _ _ _ _ _ _ W h h2 (by omega) (by omega))
  obtain ⟨z4, hz4⟩ : ∃ v, v = z2 * z2 := ⟨_, rfl⟩
  have hlz4 : (dg z4.natAbs).length ≤ 320 := by rw [hz4]; have := dg_len_mul z2 z2; omega
  have Cz4 := Lib.hid (show ∀ a l c W, Ints W (.slice a l c) (dg z2.natAbs) → Calls Try.prog 98 #[.agg #[.bool (decide (z2 < 0)), .slice a l c]] W (GivesZ z4 W) from fun a l c W h => by rw [hz4]; exact xdSquare_any z2 _ _ _ W h (by omega))
  obtain ⟨t3, ht3⟩ : ∃ v, v = z4 * (A * A) := ⟨_, rfl⟩
  have hkt3 := dg_len (A * A).natAbs (by omega)
  have hlt3 : (dg t3.natAbs).length ≤ 325 := by rw [ht3]; have := dg_len_mul z4 (A * A); omega
  have kwt3 : wrap64 (A * A) = A * A := win (by omega)
  have Ct3 := Lib.hid (show ∀ a l c W, Ints W (.slice a l c) (dg z4.natAbs) → Calls Try.prog 100 #[.agg #[.bool (decide (z4 < 0)), .slice a l c], .int .i64 (A * A)] W (GivesZ t3 W) from fun a l c W h => by rw [ht3]; exact bgTimes_any z4 (A * A) (by omega) (by omega) _ _ _ W h (by omega))
  obtain ⟨v, hv⟩ : ∃ v, v = s2 + t3 := ⟨_, rfl⟩
  have hlv : (dg v.natAbs).length ≤ 328 := by rw [hv]; have := dg_len_add s2 t3 (n := 327) (by omega) (by omega); omega
  have Cv := Lib.hid (show ∀ a l c a2 l2 c2 W, Ints W (.slice a l c) (dg s2.natAbs) → Ints W (.slice a2 l2 c2) (dg t3.natAbs) → Calls Try.prog 99 #[.agg #[.bool (decide (s2 < 0)), .slice a l c], .agg #[.bool (decide (t3 < 0)), .slice a2 l2 c2]] W (GivesZ v W) from fun a l c a2 l2 c2 W h h2 => by rw [hv]; exact bgAdd_any s2 t3 _ _ _ _ _ _ W h h2 (by omega) (by omega))
  have hv2 : numP A B x z = v := by subst hv ht3 hz4 hs2 ht2 hy2 hy1 hs1 ht1 hxz hx4 hz2 hx2; unfold numP; grind
  rw [hv2]
  have kx := WZ.mk' x
  have kz := WZ.mk' z
  have kx2 := WZ.mk' x2
  have kz2 := WZ.mk' z2
  have kx4 := WZ.mk' x4
  have kxz := WZ.mk' xz
  have kt1 := WZ.mk' t1
  have ks1 := WZ.mk' s1
  have ky1 := WZ.mk' y1
  have ky2 := WZ.mk' y2
  have kt2 := WZ.mk' t2
  have ks2 := WZ.mk' s2
  have kz4 := WZ.mk' z4
  have kt3 := WZ.mk' t3
  have kv := WZ.mk' v
  have HX := Lib.hid hx; have HZ := Lib.hid hz
  clear hv2 hx hz lx lz hAA hA hB hv hlv ht3 hlt3 hkt3 hz4 hlz4 hs2 hls2 ht2 hlt2 hkt2 hy2 hly2 hy1 hly1 hs1 hls1 ht1 hlt1 hkt1 hxz hlxz hx4 hlx4 hz2 hlz2 hx2 hlx2
  unfold GivesZ at *
  generalize dg x.natAbs = Dx at *
  generalize decide (x < 0) = nx at *
  generalize dg z.natAbs = Dz at *
  generalize decide (z < 0) = nz at *
  generalize dg x2.natAbs = Dx2 at *
  generalize decide (x2 < 0) = nx2 at *
  generalize dg z2.natAbs = Dz2 at *
  generalize decide (z2 < 0) = nz2 at *
  generalize dg x4.natAbs = Dx4 at *
  generalize decide (x4 < 0) = nx4 at *
  generalize dg xz.natAbs = Dxz at *
  generalize decide (xz < 0) = nxz at *
  generalize dg t1.natAbs = Dt1 at *
  generalize decide (t1 < 0) = nt1 at *
  generalize dg s1.natAbs = Ds1 at *
  generalize decide (s1 < 0) = ns1 at *
  generalize dg y1.natAbs = Dy1 at *
  generalize decide (y1 < 0) = ny1 at *
  generalize dg y2.natAbs = Dy2 at *
  generalize decide (y2 < 0) = ny2 at *
  generalize dg t2.natAbs = Dt2 at *
  generalize decide (t2 < 0) = nt2 at *
  generalize dg s2.natAbs = Ds2 at *
  generalize decide (s2 < 0) = ns2 at *
  generalize dg z4.natAbs = Dz4 at *
  generalize decide (z4 < 0) = nz4 at *
  generalize dg t3.natAbs = Dt3 at *
  generalize decide (t3 < 0) = nt3 at *
  generalize dg v.natAbs = Dv at *
  generalize decide (v < 0) = nv at *
  go_enter Try.func77, Try.ntmps77
  go_upto_region 1 with fail
  go_cut [5, 6] (fun s5 s6 wx => ∃ (bx bz : Nat), s5 = .pointer (some ⟨bx, 0, none⟩) ∧ s6 = .pointer (some ⟨bz, 0, none⟩) ∧ Box wx (w.heap.size) [.int .i64 A, .int .i64 B] ∧ Box wx (w.heap.size + 1 + 1) [.bool false, .slice none 0 0] ∧ Box wx bx [.bool nx, .slice a1 l1 c1] ∧ Box wx bz [.bool nz, .slice a2 l2 c2] ∧ w.heap.size + 1 + 1 < bx ∧ w.heap.size + 1 + 1 < bz ∧ Below w.heap.size w wx)
  case first =>
    go_region
    all_goals (go_wp2_with fail; go_meet; exact ⟨_, _, rfl, rfl, box_two (by first | omega | (simp; done) | (simp; omega)) (by simp [go_sem]) (by simp [go_sem]) (fun o => by simp [go_sem]), box_two (by first | omega | (simp; done) | (simp; omega)) (by simp [go_sem]) (by simp [go_sem]) (fun o => by simp [go_sem]), box_two (by first | omega | (simp; done) | (simp; omega)) (by simp [go_sem]) (by simp [go_sem]) (fun o => by simp [go_sem]), box_two (by first | omega | (simp; done) | (simp; omega)) (by simp [go_sem]) (by simp [go_sem]) (fun o => by simp [go_sem]), (by first | omega | (simp; done) | (simp; omega)), (by first | omega | (simp; done) | (simp; omega)), (by repeat' (first | (with_reducible exact Below.refl _ _) | (with_reducible assumption) | (with_reducible refine Below.alloc ?_ ?_ _) | (with_reducible refine Below.setCell ?_ ?_ _) | (with_reducible refine Below.drew ?_) | (with_reducible refine below_drewN ?_ _) | (apply bthen2; (with_reducible assumption)) | go_size))⟩)
  case rest =>
  obtain ⟨bx, bz, rfl, rfl, Bc, BR, Bx, Bz, hRx, hRz, hB⟩ := hcut
  obtain ⟨W1, hW⟩ : ∃ x, x = wc := ⟨_, rfl⟩
  subst hW
  have Ix := HX.out.below hB
  have Iz := HZ.out.below hB
  have hl_c := Bc.1
  have hl_R := BR.1
  have hl_x := Bx.1
  have hl_z := Bz.1
  go_upto_region 2 with fail
  go_cut [7, 8] (fun s7 s8 wx => ∃ (bn bm : Nat) (a : Option Addr) (l c : Nat) (b : Option Addr) (m d : Nat), s7 = .pointer (some ⟨bn, 0, none⟩) ∧ s8 = .pointer (some ⟨bm, 0, none⟩) ∧ Box wx bn [.bool nx2, .slice a l c] ∧ Box wx bm [.bool nz2, .slice b m d] ∧ Ints wx (.slice a l c) Dx2 ∧ Ints wx (.slice b m d) Dz2 ∧ W1.heap.size ≤ bn ∧ W1.heap.size ≤ bm ∧ bn ≠ bm ∧ Below W1.heap.size W1 wx)
  case first =>
    have tok1 := True.intro
    have tok2 := True.intro
    clear Cx4 Cxz Ct1 Cs1 Cy1 Cy2 Ct2 Cs2 Cz4 Ct3 Cv kx2 kz2 kx4 kxz kt1 ks1 ky1 ky2 kt2 ks2 kz4 kt3 kv kx kz
    go_region_held3 (fun w' => Below W1.heap.size W1 w' ∧ w'.cell? ⟨bx, 0, none⟩ = some (.bool nx) ∧ w'.cell? ⟨bx, 1, none⟩ = some (.slice a1 l1 c1) ∧ w'.cell? ⟨bz, 0, none⟩ = some (.bool nz) ∧ w'.cell? ⟨bz, 1, none⟩ = some (.slice a2 l2 c2)) ((refine (fun hK => And.intro hK (by exact ⟨(hK.cell (p := ⟨bx, 0, none⟩) Bx.1).trans (Bx.2.1 0 _ rfl), (hK.cell (p := ⟨bx, 1, none⟩) Bx.1).trans (Bx.2.1 1 _ rfl), (hK.cell (p := ⟨bz, 0, none⟩) Bz.1).trans (Bz.2.1 0 _ rfl), (hK.cell (p := ⟨bz, 1, none⟩) Bz.1).trans (Bz.2.1 1 _ rfl)⟩)) ?_; repeat' (first | (with_reducible exact Below.refl _ _) | (with_reducible assumption) | (with_reducible refine Below.alloc ?_ ?_ _) | (with_reducible refine Below.setCell ?_ ?_ _) | (with_reducible refine Below.drew ?_) | (with_reducible refine below_drewN ?_ _) | (apply bthen2; (with_reducible assumption)) | go_size))) ((first | (go_at_call 98; clear tok1; refine (Cx2.out _ _ _ _ ?_).mono ?_; (focus (exact (by refine Ints.below Ix ?_; repeat' (first | (with_reducible exact Below.refl _ _) | (with_reducible assumption) | (with_reducible refine Below.alloc ?_ ?_ _) | (with_reducible refine Below.setCell ?_ ?_ _) | (with_reducible refine Below.drew ?_) | (with_reducible refine below_drewN ?_ _) | (apply bthen2; (with_reducible assumption)) | go_size)))); rintro e u1 ⟨ax2_, lx2_, cx2_, rfl, ox2, hb1⟩; have hz1 := hb1.size; (try simp only [World.size_alloc, World.size_setCell, World.size_drew, World.heap_drewN] at hz1); have ix2 := ox2.ints; (first | (have q_ := g2; clear q_; (try (first | (have q_ := Box.below g1 hb1) | (with_reducible have q_ := Box.below (Box.alloc g1 _) hb1) | (with_reducible have q_ := Box.below (Box.alloc (Box.alloc g1 _) _) hb1)); clear g1; have g1 := q_; clear q_); (try (first | (have q_ := Box.below g2 hb1) | (with_reducible have q_ := Box.below (Box.alloc g2 _) hb1) | (with_reducible have q_ := Box.below (Box.alloc (Box.alloc g2 _) _) hb1)); clear g2; have g2 := q_; clear q_)) | (have q_ := g1; clear q_; (try (with_reducible have g2 := Box.below (box_made2 _ _ _ _) hb1; (try simp only [World.size_alloc, World.size_drew, World.heap_drewN] at g2))); (try (first | (have q_ := Box.below g1 hb1) | (with_reducible have q_ := Box.below (Box.alloc g1 _) hb1) | (with_reducible have q_ := Box.below (Box.alloc (Box.alloc g1 _) _) hb1)); clear g1; have g1 := q_; clear q_)) | (with_reducible have g1 := Box.below (Box.drew (Box.alloc (box_made2 _ _ _ _) _)) hb1; with_reducible have g2 := Box.below (Box.drew (box_made2 _ _ _ _)) hb1; (try simp only [World.size_alloc, World.size_drew, World.heap_drewN] at g1); (try simp only [World.size_alloc, World.size_drew, World.heap_drewN] at g2)) | (with_reducible have g1 := Box.below (Box.drew (box_made2 _ _ _ _)) hb1; (try simp only [World.size_alloc, World.size_drew, World.heap_drewN] at g1)) | skip); (try (have g1a := g1.2.1 0 _ rfl; have g1b := g1.2.1 1 _ rfl; have g1c := g1.2.2; have g1d := g1.1)); (try (have g2a := g2.2.1 0 _ rfl; have g2b := g2.2.1 1 _ rfl; have g2c := g2.2.2; have g2d := g2.1))) | (go_at_call 98; clear tok2; refine (Cz2.out _ _ _ _ ?_).mono ?_; (focus (exact (by refine Ints.below Iz ?_; repeat' (first | (with_reducible exact Below.refl _ _) | (with_reducible assumption) | (with_reducible refine Below.alloc ?_ ?_ _) | (with_reducible refine Below.setCell ?_ ?_ _) | (with_reducible refine Below.drew ?_) | (with_reducible refine below_drewN ?_ _) | (apply bthen2; (with_reducible assumption)) | go_size)))); rintro e u2 ⟨az2_, lz2_, cz2_, rfl, oz2, hb2⟩; have hz2 := hb2.size; (try simp only [World.size_alloc, World.size_setCell, World.size_drew, World.heap_drewN] at hz2); have iz2 := oz2.ints; (first | (have q_ := g2; clear q_; (try (first | (have q_ := Box.below g1 hb2) | (with_reducible have q_ := Box.below (Box.alloc g1 _) hb2) | (with_reducible have q_ := Box.below (Box.alloc (Box.alloc g1 _) _) hb2)); clear g1; have g1 := q_; clear q_); (try (first | (have q_ := Box.below g2 hb2) | (with_reducible have q_ := Box.below (Box.alloc g2 _) hb2) | (with_reducible have q_ := Box.below (Box.alloc (Box.alloc g2 _) _) hb2)); clear g2; have g2 := q_; clear q_)) | (have q_ := g1; clear q_; (try (with_reducible have g2 := Box.below (box_made2 _ _ _ _) hb2; (try simp only [World.size_alloc, World.size_drew, World.heap_drewN] at g2))); (try (first | (have q_ := Box.below g1 hb2) | (with_reducible have q_ := Box.below (Box.alloc g1 _) hb2) | (with_reducible have q_ := Box.below (Box.alloc (Box.alloc g1 _) _) hb2)); clear g1; have g1 := q_; clear q_)) | (with_reducible have g1 := Box.below (Box.alloc (box_made2 _ _ _ _) _) hb2; with_reducible have g2 := Box.below (box_made2 _ _ _ _) hb2; (try simp only [World.size_alloc, World.size_drew, World.heap_drewN] at g1); (try simp only [World.size_alloc, World.size_drew, World.heap_drewN] at g2)) | (with_reducible have g1 := Box.below (box_made2 _ _ _ _) hb2; (try simp only [World.size_alloc, World.size_drew, World.heap_drewN] at g1)) | skip); (try (have g1a := g1.2.1 0 _ rfl; have g1b := g1.2.1 1 _ rfl; have g1c := g1.2.2; have g1d := g1.1)); (try (have g2a := g2.2.1 0 _ rfl; have g2b := g2.2.1 1 _ rfl; have g2c := g2.2.2; have g2d := g2.1)))))
    all_goals (go_wp2_with fail; go_meet; first | (with_reducible refine ⟨_, _, ax2_, lx2_, cx2_, az2_, lz2_, cz2_, rfl, rfl, fresh_leafA12 ?_ ?_ ?_ ?_⟩; (focus (first | omega | (simp; done) | (simp; omega))); (focus (refine Ints.below ix2 ?_; repeat' (first | (with_reducible exact Below.refl _ _) | (with_reducible assumption) | (with_reducible refine Below.alloc ?_ ?_ _) | (with_reducible refine Below.setCell ?_ ?_ _) | (with_reducible refine Below.drew ?_) | (with_reducible refine below_drewN ?_ _) | (apply bthen2; (with_reducible assumption)) | go_size))); (focus (refine Ints.below iz2 ?_; repeat' (first | (with_reducible exact Below.refl _ _) | (with_reducible assumption) | (with_reducible refine Below.alloc ?_ ?_ _) | (with_reducible refine Below.setCell ?_ ?_ _) | (with_reducible refine Below.drew ?_) | (with_reducible refine below_drewN ?_ _) | (apply bthen2; (with_reducible assumption)) | go_size))); (focus (repeat' (first | (with_reducible exact Below.refl _ _) | (with_reducible assumption) | (with_reducible refine Below.alloc ?_ ?_ _) | (with_reducible refine Below.setCell ?_ ?_ _) | (with_reducible refine Below.drew ?_) | (with_reducible refine below_drewN ?_ _) | (apply bthen2; (with_reducible assumption)) | go_size)))) | (with_reducible refine ⟨_, _, ax2_, lx2_, cx2_, az2_, lz2_, cz2_, rfl, rfl, fresh_leafA21 ?_ ?_ ?_ ?_⟩; (focus (first | omega | (simp; done) | (simp; omega))); (focus (refine Ints.below ix2 ?_; repeat' (first | (with_reducible exact Below.refl _ _) | (with_reducible assumption) | (with_reducible refine Below.alloc ?_ ?_ _) | (with_reducible refine Below.setCell ?_ ?_ _) | (with_reducible refine Below.drew ?_) | (with_reducible refine below_drewN ?_ _) | (apply bthen2; (with_reducible assumption)) | go_size))); (focus (refine Ints.below iz2 ?_; repeat' (first | (with_reducible exact Below.refl _ _) | (with_reducible assumption) | (with_reducible refine Below.alloc ?_ ?_ _) | (with_reducible refine Below.setCell ?_ ?_ _) | (with_reducible refine Below.drew ?_) | (with_reducible refine below_drewN ?_ _) | (apply bthen2; (with_reducible assumption)) | go_size))); (focus (repeat' (first | (with_reducible exact Below.refl _ _) | (with_reducible assumption) | (with_reducible refine Below.alloc ?_ ?_ _) | (with_reducible refine Below.setCell ?_ ?_ _) | (with_reducible refine Below.drew ?_) | (with_reducible refine below_drewN ?_ _) | (apply bthen2; (with_reducible assumption)) | go_size)))) | (with_reducible refine ⟨_, _, ax2_, lx2_, cx2_, az2_, lz2_, cz2_, rfl, rfl, fresh_leafB1 ?_ ?_ ?_ ?_ ?_ ?_⟩; (focus (first | omega | (simp; done) | (simp; omega))); (focus (refine Ints.below ix2 ?_; repeat' (first | (with_reducible exact Below.refl _ _) | (with_reducible assumption) | (with_reducible refine Below.alloc ?_ ?_ _) | (with_reducible refine Below.setCell ?_ ?_ _) | (with_reducible refine Below.drew ?_) | (with_reducible refine below_drewN ?_ _) | (apply bthen2; (with_reducible assumption)) | go_size))); (focus (refine Ints.below iz2 ?_; repeat' (first | (with_reducible exact Below.refl _ _) | (with_reducible assumption) | (with_reducible refine Below.alloc ?_ ?_ _) | (with_reducible refine Below.setCell ?_ ?_ _) | (with_reducible refine Below.drew ?_) | (with_reducible refine below_drewN ?_ _) | (apply bthen2; (with_reducible assumption)) | go_size))); (focus (repeat' (first | (with_reducible exact Below.refl _ _) | (with_reducible assumption) | (with_reducible refine Below.alloc ?_ ?_ _) | (with_reducible refine Below.setCell ?_ ?_ _) | (with_reducible refine Below.drew ?_) | (with_reducible refine below_drewN ?_ _) | (apply bthen2; (with_reducible assumption)) | go_size))); (focus (first | omega | (simp; done) | (simp; omega))); (focus (repeat' (first | (with_reducible assumption) | (with_reducible exact box_made2 _ _ _ _) | (refine box_made2' _ _ _ _ (by first | rfl | (simp; done))) | (with_reducible refine Box.alloc ?_ _) | (with_reducible refine Box.drew ?_))))) | (with_reducible refine ⟨_, _, ax2_, lx2_, cx2_, az2_, lz2_, cz2_, rfl, rfl, fresh_leafB2 ?_ ?_ ?_ ?_ ?_ ?_⟩; (focus (first | omega | (simp; done) | (simp; omega))); (focus (refine Ints.below ix2 ?_; repeat' (first | (with_reducible exact Below.refl _ _) | (with_reducible assumption) | (with_reducible refine Below.alloc ?_ ?_ _) | (with_reducible refine Below.setCell ?_ ?_ _) | (with_reducible refine Below.drew ?_) | (with_reducible refine below_drewN ?_ _) | (apply bthen2; (with_reducible assumption)) | go_size))); (focus (refine Ints.below iz2 ?_; repeat' (first | (with_reducible exact Below.refl _ _) | (with_reducible assumption) | (with_reducible refine Below.alloc ?_ ?_ _) | (with_reducible refine Below.setCell ?_ ?_ _) | (with_reducible refine Below.drew ?_) | (with_reducible refine below_drewN ?_ _) | (apply bthen2; (with_reducible assumption)) | go_size))); (focus (repeat' (first | (with_reducible exact Below.refl _ _) | (with_reducible assumption) | (with_reducible refine Below.alloc ?_ ?_ _) | (with_reducible refine Below.setCell ?_ ?_ _) | (with_reducible refine Below.drew ?_) | (with_reducible refine below_drewN ?_ _) | (apply bthen2; (with_reducible assumption)) | go_size))); (focus (first | omega | (simp; done) | (simp; omega))); (focus (repeat' (first | (with_reducible assumption) | (with_reducible exact box_made2 _ _ _ _) | (refine box_made2' _ _ _ _ (by first | rfl | (simp; done))) | (with_reducible refine Box.alloc ?_ _) | (with_reducible refine Box.drew ?_))))) | (with_reducible refine ⟨_, _, ax2_, lx2_, cx2_, az2_, lz2_, cz2_, rfl, rfl, fresh_leaf2 ?_ ?_ ?_ ?_ ?_ ?_ ?_ ?_⟩; (focus (first | omega | (simp; done) | (simp; omega))); (focus (first | omega | (simp; done) | (simp; omega))); (focus (first | omega | (simp; done) | (simp; omega))); (focus (refine Ints.below ix2 ?_; repeat' (first | (with_reducible exact Below.refl _ _) | (with_reducible assumption) | (with_reducible refine Below.alloc ?_ ?_ _) | (with_reducible refine Below.setCell ?_ ?_ _) | (with_reducible refine Below.drew ?_) | (with_reducible refine below_drewN ?_ _) | (apply bthen2; (with_reducible assumption)) | go_size))); (focus (refine Ints.below iz2 ?_; repeat' (first | (with_reducible exact Below.refl _ _) | (with_reducible assumption) | (with_reducible refine Below.alloc ?_ ?_ _) | (with_reducible refine Below.setCell ?_ ?_ _) | (with_reducible refine Below.drew ?_) | (with_reducible refine below_drewN ?_ _) | (apply bthen2; (with_reducible assumption)) | go_size))); (focus (repeat' (first | (with_reducible exact Below.refl _ _) | (with_reducible assumption) | (with_reducible refine Below.alloc ?_ ?_ _) | (with_reducible refine Below.setCell ?_ ?_ _) | (with_reducible refine Below.drew ?_) | (with_reducible refine below_drewN ?_ _) | (apply bthen2; (with_reducible assumption)) | go_size))); (focus (repeat' (first | (with_reducible assumption) | (with_reducible exact box_made2 _ _ _ _) | (refine box_made2' _ _ _ _ (by first | rfl | (simp; done))) | (with_reducible refine Box.alloc ?_ _) | (with_reducible refine Box.drew ?_)))); (focus (repeat' (first | (with_reducible assumption) | (with_reducible exact box_made2 _ _ _ _) | (refine box_made2' _ _ _ _ (by first | rfl | (simp; done))) | (with_reducible refine Box.alloc ?_ _) | (with_reducible refine Box.drew ?_))))))
  case rest =>
  obtain ⟨b_x2, b_z2, ax2_, lx2_, cx2_, az2_, lz2_, cz2_, rfl, rfl, Bn1, Bm1, In1, Im1, hn1, hm1, hnm1, hb⟩ := hcut
  have hq_c_x2 : w.heap.size < b_x2 := by omega
  have hq_c_z2 : w.heap.size < b_z2 := by omega
  have hq_R_x2 : w.heap.size + 1 + 1 < b_x2 := by omega
  have hq_R_z2 : w.heap.size + 1 + 1 < b_z2 := by omega
  have hq_x_x2 : bx < b_x2 := by omega
  have hq_x_z2 : bx < b_z2 := by omega
  have hq_z_x2 : bz < b_x2 := by omega
  have hq_z_z2 : bz < b_z2 := by omega
  obtain ⟨W2, hW⟩ : ∃ x, x = wc := ⟨_, rfl⟩
  subst hW
  have BcW2 := Bc.below hb
  have BRW2 := BR.below hb
  have BxW2 := Bx.below hb
  have BzW2 := Bz.below hb
  have IxW2 := Ix.below hb
  have IzW2 := Iz.below hb
  have hB := hB.trans (hb.mono hB.size)
  clear Bc BR Bx Bz Ix Iz hb
  replace hl_c := BcW2.1
  replace hl_R := BRW2.1
  replace hl_x := BxW2.1
  replace hl_z := BzW2.1
  have hl_x2 := Bn1.1
  have hl_z2 := Bm1.1
  go_upto_region 3 with fail
  go_cut [9] (fun s9 wx => ∃ (bn : Nat) (a : Option Addr) (l c : Nat), s9 = .pointer (some ⟨bn, 0, none⟩) ∧ Box wx bn [.bool ns1, .slice a l c] ∧ Ints wx (.slice a l c) Ds1 ∧ W2.heap.size ≤ bn ∧ Below W2.heap.size W2 wx)
  case first =>
    have HBcW2 := Lib.hid BcW2
    have HBRW2 := Lib.hid BRW2
    have HBxW2 := Lib.hid BxW2
    have HBzW2 := Lib.hid BzW2
    have HBn1 := Lib.hid Bn1
    have HBm1 := Lib.hid Bm1
    clear BcW2 BRW2 BxW2 BzW2 Bn1 Bm1
    clear Cx2 Cz2 Cy1 Cy2 Ct2 Cs2 Cz4 Ct3 Cv kx2 kz2 kx4 kxz kt1 ks1 ky1 ky2 kt2 ks2 kz4 kt3 kv kx kz
    have tok1 := True.intro
    have tok2 := True.intro
    have tok3 := True.intro
    have tok4 := True.intro
    go_region_held3 (fun w' => Below W2.heap.size W2 w' ∧ w'.cell? ⟨w.heap.size, 0, none⟩ = some (.int .i64 A) ∧ w'.cell? ⟨w.heap.size, 1, none⟩ = some (.int .i64 B) ∧ w'.cell? ⟨b_x2, 0, none⟩ = some (.bool nx2) ∧ w'.cell? ⟨b_x2, 1, none⟩ = some (.slice ax2_ lx2_ cx2_) ∧ w'.cell? ⟨b_z2, 0, none⟩ = some (.bool nz2) ∧ w'.cell? ⟨b_z2, 1, none⟩ = some (.slice az2_ lz2_ cz2_)) ((refine (fun hK => And.intro hK (by exact ⟨(hK.cell (p := ⟨w.heap.size, 0, none⟩) HBcW2.out.1).trans (HBcW2.out.2.1 0 _ rfl), (hK.cell (p := ⟨w.heap.size, 1, none⟩) HBcW2.out.1).trans (HBcW2.out.2.1 1 _ rfl), (hK.cell (p := ⟨b_x2, 0, none⟩) HBn1.out.1).trans (HBn1.out.2.1 0 _ rfl), (hK.cell (p := ⟨b_x2, 1, none⟩) HBn1.out.1).trans (HBn1.out.2.1 1 _ rfl), (hK.cell (p := ⟨b_z2, 0, none⟩) HBm1.out.1).trans (HBm1.out.2.1 0 _ rfl), (hK.cell (p := ⟨b_z2, 1, none⟩) HBm1.out.1).trans (HBm1.out.2.1 1 _ rfl)⟩)) ?_; repeat' (first | (with_reducible exact Below.refl _ _) | (with_reducible assumption) | (with_reducible refine Below.alloc ?_ ?_ _) | (with_reducible refine Below.setCell ?_ ?_ _) | (with_reducible refine Below.drew ?_) | (with_reducible refine below_drewN ?_ _) | (apply bthen2; (with_reducible assumption)) | go_size))) ((first | (go_at_call 98; clear tok1; refine (Cx4.out _ _ _ _ ?_).mono ?_; (focus (exact (by refine Ints.below In1 ?_; repeat' (first | (with_reducible exact Below.refl _ _) | (with_reducible assumption) | (with_reducible refine Below.alloc ?_ ?_ _) | (with_reducible refine Below.setCell ?_ ?_ _) | (with_reducible refine Below.drew ?_) | (with_reducible refine below_drewN ?_ _) | (apply bthen2; (with_reducible assumption)) | go_size)))); rintro e u1 ⟨ax4_, lx4_, cx4_, rfl, ox4, hb1⟩; have hz1 := hb1.size; (try simp only [World.size_alloc, World.size_setCell, World.size_drew, World.heap_drewN] at hz1); have ix4 := ox4.ints; (first | (have q_ := g1; clear q_; (try (first | (have q_ := Box.below g1 hb1) | (with_reducible have q_ := Box.below (Box.alloc g1 _) hb1) | (with_reducible have q_ := Box.below (Box.alloc (Box.alloc g1 _) _) hb1)); clear g1; have g1 := q_; clear q_)) | (with_reducible have g1 := Box.below (Box.drew (Box.alloc (box_made2 _ _ _ _) _)) hb1; (try simp only [World.size_alloc, World.size_drew, World.heap_drewN] at g1)) | (with_reducible have g1 := Box.below (Box.drew (box_made2 _ _ _ _)) hb1; (try simp only [World.size_alloc, World.size_drew, World.heap_drewN] at g1)) | skip); (try (have g1a := g1.2.1 0 _ rfl; have g1b := g1.2.1 1 _ rfl; have g1c := g1.2.2; have g1d := g1.1))) | (go_at_call 64; clear tok2; refine (Cxz.out _ _ _ _ _ _ _ ?_ ?_).mono ?_; (focus (exact (by refine Ints.below In1 ?_; repeat' (first | (with_reducible exact Below.refl _ _) | (with_reducible assumption) | (with_reducible refine Below.alloc ?_ ?_ _) | (with_reducible refine Below.setCell ?_ ?_ _) | (with_reducible refine Below.drew ?_) | (with_reducible refine below_drewN ?_ _) | (apply bthen2; (with_reducible assumption)) | go_size)))); (focus (exact (by refine Ints.below Im1 ?_; repeat' (first | (with_reducible exact Below.refl _ _) | (with_reducible assumption) | (with_reducible refine Below.alloc ?_ ?_ _) | (with_reducible refine Below.setCell ?_ ?_ _) | (with_reducible refine Below.drew ?_) | (with_reducible refine below_drewN ?_ _) | (apply bthen2; (with_reducible assumption)) | go_size)))); rintro e u2 ⟨axz_, lxz_, cxz_, rfl, oxz, hb2⟩; have hz2 := hb2.size; (try simp only [World.size_alloc, World.size_setCell, World.size_drew, World.heap_drewN] at hz2); have ixz := oxz.ints; (first | (have q_ := g1; clear q_; (try (first | (have q_ := Box.below g1 hb2) | (with_reducible have q_ := Box.below (Box.alloc g1 _) hb2) | (with_reducible have q_ := Box.below (Box.alloc (Box.alloc g1 _) _) hb2)); clear g1; have g1 := q_; clear q_)) | (with_reducible have g1 := Box.below (Box.alloc (box_made2 _ _ _ _) _) hb2; (try simp only [World.size_alloc, World.size_drew, World.heap_drewN] at g1)) | (with_reducible have g1 := Box.below (box_made2 _ _ _ _) hb2; (try simp only [World.size_alloc, World.size_drew, World.heap_drewN] at g1)) | skip); (try (have g1a := g1.2.1 0 _ rfl; have g1b := g1.2.1 1 _ rfl; have g1c := g1.2.2; have g1d := g1.1))) | ((try simp only [IntWalk.i64_left, kwt1]); go_at_call 100; clear tok3; refine (Ct1.out _ _ _ _ ?_).mono ?_; (focus (exact (by refine Ints.below ixz ?_; repeat' (first | (with_reducible exact Below.refl _ _) | (with_reducible assumption) | (with_reducible refine Below.alloc ?_ ?_ _) | (with_reducible refine Below.setCell ?_ ?_ _) | (with_reducible refine Below.drew ?_) | (with_reducible refine below_drewN ?_ _) | (apply bthen2; (with_reducible assumption)) | go_size)))); rintro e u3 ⟨at1_, lt1_, ct1_, rfl, ot1, hb3⟩; have hz3 := hb3.size; (try simp only [World.size_alloc, World.size_setCell, World.size_drew, World.heap_drewN] at hz3); have it1 := ot1.ints; (first | (have q_ := g1; clear q_; (try (first | (have q_ := Box.below g1 hb3) | (with_reducible have q_ := Box.below (Box.alloc g1 _) hb3) | (with_reducible have q_ := Box.below (Box.alloc (Box.alloc g1 _) _) hb3)); clear g1; have g1 := q_; clear q_)) | (with_reducible have g1 := Box.below (Box.alloc (box_made2 _ _ _ _) _) hb3; (try simp only [World.size_alloc, World.size_drew, World.heap_drewN] at g1)) | (with_reducible have g1 := Box.below (box_made2 _ _ _ _) hb3; (try simp only [World.size_alloc, World.size_drew, World.heap_drewN] at g1)) | skip); (try (have g1a := g1.2.1 0 _ rfl; have g1b := g1.2.1 1 _ rfl; have g1c := g1.2.2; have g1d := g1.1))) | (go_at_call 107; clear tok4; refine (Cs1.out _ _ _ _ _ _ _ ?_ ?_).mono ?_; (focus (exact (by refine Ints.below ix4 ?_; repeat' (first | (with_reducible exact Below.refl _ _) | (with_reducible assumption) | (with_reducible refine Below.alloc ?_ ?_ _) | (with_reducible refine Below.setCell ?_ ?_ _) | (with_reducible refine Below.drew ?_) | (with_reducible refine below_drewN ?_ _) | (apply bthen2; (with_reducible assumption)) | go_size)))); (focus (exact (by refine Ints.below it1 ?_; repeat' (first | (with_reducible exact Below.refl _ _) | (with_reducible assumption) | (with_reducible refine Below.alloc ?_ ?_ _) | (with_reducible refine Below.setCell ?_ ?_ _) | (with_reducible refine Below.drew ?_) | (with_reducible refine below_drewN ?_ _) | (apply bthen2; (with_reducible assumption)) | go_size)))); rintro e u4 ⟨as1_, ls1_, cs1_, rfl, os1, hb4⟩; have hz4 := hb4.size; (try simp only [World.size_alloc, World.size_setCell, World.size_drew, World.heap_drewN] at hz4); have is1 := os1.ints; (first | (have q_ := g1; clear q_; (try (first | (have q_ := Box.below g1 hb4) | (with_reducible have q_ := Box.below (Box.alloc g1 _) hb4) | (with_reducible have q_ := Box.below (Box.alloc (Box.alloc g1 _) _) hb4)); clear g1; have g1 := q_; clear q_)) | (with_reducible have g1 := Box.below (Box.alloc (box_made2 _ _ _ _) _) hb4; (try simp only [World.size_alloc, World.size_drew, World.heap_drewN] at g1)) | (with_reducible have g1 := Box.below (box_made2 _ _ _ _) hb4; (try simp only [World.size_alloc, World.size_drew, World.heap_drewN] at g1)) | skip); (try (have g1a := g1.2.1 0 _ rfl; have g1b := g1.2.1 1 _ rfl; have g1c := g1.2.2; have g1d := g1.1)))))
    all_goals (go_wp2_with fail; go_meet; first | (with_reducible refine ⟨_, as1_, ls1_, cs1_, rfl, fresh_leafA ?_ ?_ ?_⟩; (focus (first | omega | (simp; done) | (simp; omega))); (focus (refine Ints.below is1 ?_; repeat' (first | (with_reducible exact Below.refl _ _) | (with_reducible assumption) | (with_reducible refine Below.alloc ?_ ?_ _) | (with_reducible refine Below.setCell ?_ ?_ _) | (with_reducible refine Below.drew ?_) | (with_reducible refine below_drewN ?_ _) | (apply bthen2; (with_reducible assumption)) | go_size))); (focus (repeat' (first | (with_reducible exact Below.refl _ _) | (with_reducible assumption) | (with_reducible refine Below.alloc ?_ ?_ _) | (with_reducible refine Below.setCell ?_ ?_ _) | (with_reducible refine Below.drew ?_) | (with_reducible refine below_drewN ?_ _) | (apply bthen2; (with_reducible assumption)) | go_size)))) | (with_reducible refine ⟨_, as1_, ls1_, cs1_, rfl, fresh_leaf ?_ ?_ ?_ ?_⟩; (focus (first | omega | (simp; done) | (simp; omega))); (focus (refine Ints.below is1 ?_; repeat' (first | (with_reducible exact Below.refl _ _) | (with_reducible assumption) | (with_reducible refine Below.alloc ?_ ?_ _) | (with_reducible refine Below.setCell ?_ ?_ _) | (with_reducible refine Below.drew ?_) | (with_reducible refine below_drewN ?_ _) | (apply bthen2; (with_reducible assumption)) | go_size))); (focus (repeat' (first | (with_reducible exact Below.refl _ _) | (with_reducible assumption) | (with_reducible refine Below.alloc ?_ ?_ _) | (with_reducible refine Below.setCell ?_ ?_ _) | (with_reducible refine Below.drew ?_) | (with_reducible refine below_drewN ?_ _) | (apply bthen2; (with_reducible assumption)) | go_size))); (focus ((repeat' (first | (with_reducible assumption) | (with_reducible exact box_made2 _ _ _ _) | (refine box_made2' _ _ _ _ (by first | rfl | (simp; done))) | (with_reducible refine Box.alloc ?_ _) | (with_reducible refine Box.drew ?_)))))))
  case rest =>
  obtain ⟨b_s1, as1_, ls1_, cs1_, rfl, Bn2, In2, hn2, hb⟩ := hcut
  have hq_c_s1 : w.heap.size < b_s1 := by omega
  have hq_R_s1 : w.heap.size + 1 + 1 < b_s1 := by omega
  have hq_x_s1 : bx < b_s1 := by omega
  have hq_z_s1 : bz < b_s1 := by omega
  have hq_x2_s1 : b_x2 < b_s1 := by omega
  have hq_z2_s1 : b_z2 < b_s1 := by omega
  obtain ⟨W3, hW⟩ : ∃ x, x = wc := ⟨_, rfl⟩
  subst hW
  have BcW3 := BcW2.below hb
  have BRW3 := BRW2.below hb
  have BxW3 := BxW2.below hb
  have BzW3 := BzW2.below hb
  have Bx2W3 := Bn1.below hb
  have Bz2W3 := Bm1.below hb
  have IxW3 := IxW2.below hb
  have IzW3 := IzW2.below hb
  have Ix2W3 := In1.below hb
  have Iz2W3 := Im1.below hb
  have hB := hB.trans (hb.mono hB.size)
  clear BcW2 BRW2 BxW2 BzW2 Bn1 Bm1 IxW2 IzW2 In1 Im1 hb
  replace hl_c := BcW3.1
  replace hl_R := BRW3.1
  replace hl_x := BxW3.1
  replace hl_z := BzW3.1
  replace hl_x2 := Bx2W3.1
  replace hl_z2 := Bz2W3.1
  have hl_s1 := Bn2.1
  go_upto_region 4 with fail
  go_cut [] (fun wx => ∃ (W0 : World) (a : Option Addr) (l c : Nat), Below W3.heap.size W3 W0 ∧ Ints W0 (.slice a l c) Ds2 ∧ wx = sto W0 (b_s1) ns2 (.slice a l c))
  case first =>
    clear Cx2 Cz2 Cx4 Cxz Ct1 Cs1 Cz4 Ct3 Cv kx2 kz2 kx4 kxz kt1 ks1 ky1 ky2 kt2 ks2 kz4 kt3 kv kx kz
    have tok1 := True.intro
    have tok2 := True.intro
    have tok3 := True.intro
    have tok4 := True.intro
    have qT := Bn2
    have qT0 := qT.2.1 0 _ rfl
    have qT1 := qT.2.1 1 _ rfl
    have qTf := qT.2.2
    have qTl := qT.1
    refine wp_region_x (fun w' => Below W3.heap.size W3 w' ∧ w'.cell? ⟨w.heap.size, 0, none⟩ = some (.int .i64 A) ∧ w'.cell? ⟨w.heap.size, 1, none⟩ = some (.int .i64 B) ∧ w'.cell? ⟨bx, 0, none⟩ = some (.bool nx) ∧ w'.cell? ⟨bx, 1, none⟩ = some (.slice a1 l1 c1) ∧ w'.cell? ⟨bz, 0, none⟩ = some (.bool nz) ∧ w'.cell? ⟨bz, 1, none⟩ = some (.slice a2 l2 c2) ∧ w'.cell? ⟨b_z2, 0, none⟩ = some (.bool nz2) ∧ w'.cell? ⟨b_z2, 1, none⟩ = some (.slice az2_ lz2_ cz2_) ∧ w'.cell? ⟨b_s1, 0, none⟩ = some (.bool ns1) ∧ w'.cell? ⟨b_s1, 1, none⟩ = some (.slice as1_ ls1_ cs1_)) (fun i => decide (i < 11)) (by kernel_rfl) ?_ (fun hHeld => ?_)
    focus ((try dsimp only); (refine (fun hbK => And.intro hbK (by exact ⟨(hbK.cell (p := ⟨w.heap.size, 0, none⟩) BcW3.1).trans (BcW3.2.1 0 _ rfl), (hbK.cell (p := ⟨w.heap.size, 1, none⟩) BcW3.1).trans (BcW3.2.1 1 _ rfl), (hbK.cell (p := ⟨bx, 0, none⟩) BxW3.1).trans (BxW3.2.1 0 _ rfl), (hbK.cell (p := ⟨bx, 1, none⟩) BxW3.1).trans (BxW3.2.1 1 _ rfl), (hbK.cell (p := ⟨bz, 0, none⟩) BzW3.1).trans (BzW3.2.1 0 _ rfl), (hbK.cell (p := ⟨bz, 1, none⟩) BzW3.1).trans (BzW3.2.1 1 _ rfl), (hbK.cell (p := ⟨b_z2, 0, none⟩) Bz2W3.1).trans (Bz2W3.2.1 0 _ rfl), (hbK.cell (p := ⟨b_z2, 1, none⟩) Bz2W3.1).trans (Bz2W3.2.1 1 _ rfl), (hbK.cell (p := ⟨b_s1, 0, none⟩) Bn2.1).trans (Bn2.2.1 0 _ rfl), (hbK.cell (p := ⟨b_s1, 1, none⟩) Bn2.1).trans (Bn2.2.1 1 _ rfl)⟩)) ?_; repeat' (first | (with_reducible exact Below.refl _ _) | (with_reducible assumption) | (with_reducible refine Below.alloc ?_ ?_ _) | (with_reducible refine Below.setCell ?_ ?_ _) | (with_reducible refine Below.drew ?_) | (with_reducible refine below_drewN ?_ _) | (apply bthen2; (with_reducible assumption)) | go_size)))
    refine wpAnyX_take (v := ?_) 0 rfl (by kernel_rfl) (by kernel_rfl) (by kernel_rfl) (by kernel_rfl) (by kernel_rfl) (fun _ _ _ h => h) (by rfl) ?_ (by assumption) ?_
    rotate_left
    focus (intro w hSw; (try dsimp only at hSw); go_simp; (try with_reducible rfl))
    (try simp only [Act.put, List.setIfInBounds_toArray, List.set_cons_zero, List.set_cons_succ])
    refine wpAnyX_take (v := ?_) 1 rfl (by kernel_rfl) (by kernel_rfl) (by kernel_rfl) (by kernel_rfl) (by kernel_rfl) (fun _ _ _ h => h) (by rfl) ?_ (by assumption) ?_
    rotate_left
    focus (intro w hSw; (try dsimp only at hSw); go_simp; (try with_reducible rfl))
    (try simp only [Act.put, List.setIfInBounds_toArray, List.set_cons_zero, List.set_cons_succ])
    refine wpAnyX_take (v := ?_) 2 rfl (by kernel_rfl) (by kernel_rfl) (by kernel_rfl) (by kernel_rfl) (by kernel_rfl) (fun _ _ _ h => h) (by rfl) ?_ (by assumption) ?_
    rotate_left
    focus (intro w hSw; (try dsimp only at hSw); go_simp; (try with_reducible rfl))
    (try simp only [Act.put, List.setIfInBounds_toArray, List.set_cons_zero, List.set_cons_succ])
    refine wpAnyX_take (v := ?_) 4 rfl (by kernel_rfl) (by kernel_rfl) (by kernel_rfl) (by kernel_rfl) (by kernel_rfl) (fun _ _ _ h => h) (by rfl) ?_ (by assumption) ?_
    rotate_left
    focus (intro w hSw; (try dsimp only at hSw); go_simp; (try with_reducible rfl))
    (try simp only [Act.put, List.setIfInBounds_toArray, List.set_cons_zero, List.set_cons_succ])
    refine wpAnyX_take (v := ?_) 6 rfl (by kernel_rfl) (by kernel_rfl) (by kernel_rfl) (by kernel_rfl) (by kernel_rfl) (fun _ _ _ h => h) (by rfl) ?_ (by assumption) ?_
    rotate_left
    focus (intro w hSw; (try dsimp only at hSw); go_simp; (try with_reducible rfl))
    (try simp only [Act.put, List.setIfInBounds_toArray, List.set_cons_zero, List.set_cons_succ])
    refine wpAnyX_take (v := ?_) 7 rfl (by kernel_rfl) (by kernel_rfl) (by kernel_rfl) (by kernel_rfl) (by kernel_rfl) (fun _ _ _ h => h) (by rfl) ?_ (by assumption) ?_
    rotate_left
    focus (intro w hSw; (try dsimp only at hSw); go_simp; (try with_reducible rfl))
    (try simp only [Act.put, List.setIfInBounds_toArray, List.set_cons_zero, List.set_cons_succ])
    refine wpAnyX_take (v := ?_) 8 rfl (by kernel_rfl) (by kernel_rfl) (by kernel_rfl) (by kernel_rfl) (by kernel_rfl) (fun _ _ _ h => h) (by rfl) ?_ (by assumption) ?_
    rotate_left
    focus (intro w hSw; (try dsimp only at hSw); go_simp; (try with_reducible rfl))
    (try simp only [Act.put, List.setIfInBounds_toArray, List.set_cons_zero, List.set_cons_succ])
    refine wpAnyX_one 3 rfl (by kernel_rfl) (fun K hK => ?_)
    go_simp
    (go_at_call 64; clear tok1; refine (Cy1.out _ _ _ _ _ _ _ ?_ ?_).mono ?_; (focus (exact (by refine Ints.below IxW3 ?_; repeat' (first | (with_reducible exact Below.refl _ _) | (with_reducible assumption) | (with_reducible refine Below.alloc ?_ ?_ _) | (with_reducible refine Below.setCell ?_ ?_ _) | (with_reducible refine Below.drew ?_) | (with_reducible refine below_drewN ?_ _) | (apply bthen2; (with_reducible assumption)) | go_size)))); (focus (exact (by refine Ints.below IzW3 ?_; repeat' (first | (with_reducible exact Below.refl _ _) | (with_reducible assumption) | (with_reducible refine Below.alloc ?_ ?_ _) | (with_reducible refine Below.setCell ?_ ?_ _) | (with_reducible refine Below.drew ?_) | (with_reducible refine below_drewN ?_ _) | (apply bthen2; (with_reducible assumption)) | go_size)))); rintro e u1 ⟨ay1_, ly1_, cy1_, rfl, oy1, hb1⟩; have hz1 := hb1.size; (try simp only [World.size_alloc, World.size_setCell, World.size_drew, World.heap_drewN] at hz1); have iy1 := oy1.ints; have qT := Box.below (show Box _ (b_s1) [.bool ns1, .slice as1_ ls1_ cs1_] from (by (repeat' (first | (with_reducible assumption) | (with_reducible refine Box.alloc ?_ _) | (with_reducible refine Box.drew ?_))))) hb1; have qT0 := qT.2.1 0 _ rfl; have qT1 := qT.2.1 1 _ rfl; have qTf := qT.2.2; have qTl := qT.1)
    go_wp2_with fail
    clear hHeld
    refine hK.out _ _ ?_ (fun hHeld => ?_)
    focus ((try dsimp only); (refine (fun hbK => And.intro hbK (by exact ⟨(hbK.cell (p := ⟨w.heap.size, 0, none⟩) BcW3.1).trans (BcW3.2.1 0 _ rfl), (hbK.cell (p := ⟨w.heap.size, 1, none⟩) BcW3.1).trans (BcW3.2.1 1 _ rfl), (hbK.cell (p := ⟨bx, 0, none⟩) BxW3.1).trans (BxW3.2.1 0 _ rfl), (hbK.cell (p := ⟨bx, 1, none⟩) BxW3.1).trans (BxW3.2.1 1 _ rfl), (hbK.cell (p := ⟨bz, 0, none⟩) BzW3.1).trans (BzW3.2.1 0 _ rfl), (hbK.cell (p := ⟨bz, 1, none⟩) BzW3.1).trans (BzW3.2.1 1 _ rfl), (hbK.cell (p := ⟨b_z2, 0, none⟩) Bz2W3.1).trans (Bz2W3.2.1 0 _ rfl), (hbK.cell (p := ⟨b_z2, 1, none⟩) Bz2W3.1).trans (Bz2W3.2.1 1 _ rfl), (hbK.cell (p := ⟨b_s1, 0, none⟩) Bn2.1).trans (Bn2.2.1 0 _ rfl), (hbK.cell (p := ⟨b_s1, 1, none⟩) Bn2.1).trans (Bn2.2.1 1 _ rfl)⟩)) ?_; repeat' (first | (with_reducible exact Below.refl _ _) | (with_reducible assumption) | (with_reducible refine Below.alloc ?_ ?_ _) | (with_reducible refine Below.setCell ?_ ?_ _) | (with_reducible refine Below.drew ?_) | (with_reducible refine below_drewN ?_ _) | (apply bthen2; (with_reducible assumption)) | go_size)))
    clear hK K
    (try simp only [Act.put, List.setIfInBounds_toArray, List.set_cons_zero, List.set_cons_succ])
    refine wpAnyX_one 5 rfl (by kernel_rfl) (fun K hK => ?_)
    go_simp
    (go_at_call 64; clear tok2; refine (Cy2.out _ _ _ _ _ _ _ ?_ ?_).mono ?_; (focus (exact (by refine Ints.below iy1 ?_; repeat' (first | (with_reducible exact Below.refl _ _) | (with_reducible assumption) | (with_reducible refine Below.alloc ?_ ?_ _) | (with_reducible refine Below.setCell ?_ ?_ _) | (with_reducible refine Below.drew ?_) | (with_reducible refine below_drewN ?_ _) | (apply bthen2; (with_reducible assumption)) | go_size)))); (focus (exact (by refine Ints.below Iz2W3 ?_; repeat' (first | (with_reducible exact Below.refl _ _) | (with_reducible assumption) | (with_reducible refine Below.alloc ?_ ?_ _) | (with_reducible refine Below.setCell ?_ ?_ _) | (with_reducible refine Below.drew ?_) | (with_reducible refine below_drewN ?_ _) | (apply bthen2; (with_reducible assumption)) | go_size)))); rintro e u2 ⟨ay2_, ly2_, cy2_, rfl, oy2, hb2⟩; have hz2 := hb2.size; (try simp only [World.size_alloc, World.size_setCell, World.size_drew, World.heap_drewN] at hz2); have iy2 := oy2.ints; have qT := Box.below (show Box _ (b_s1) [.bool ns1, .slice as1_ ls1_ cs1_] from (by (repeat' (first | (with_reducible assumption) | (with_reducible refine Box.alloc ?_ _) | (with_reducible refine Box.drew ?_))))) hb2; have qT0 := qT.2.1 0 _ rfl; have qT1 := qT.2.1 1 _ rfl; have qTf := qT.2.2; have qTl := qT.1)
    go_wp2_with fail
    clear hHeld
    refine hK.out _ _ ?_ (fun hHeld => ?_)
    focus ((try dsimp only); (refine (fun hbK => And.intro hbK (by exact ⟨(hbK.cell (p := ⟨w.heap.size, 0, none⟩) BcW3.1).trans (BcW3.2.1 0 _ rfl), (hbK.cell (p := ⟨w.heap.size, 1, none⟩) BcW3.1).trans (BcW3.2.1 1 _ rfl), (hbK.cell (p := ⟨bx, 0, none⟩) BxW3.1).trans (BxW3.2.1 0 _ rfl), (hbK.cell (p := ⟨bx, 1, none⟩) BxW3.1).trans (BxW3.2.1 1 _ rfl), (hbK.cell (p := ⟨bz, 0, none⟩) BzW3.1).trans (BzW3.2.1 0 _ rfl), (hbK.cell (p := ⟨bz, 1, none⟩) BzW3.1).trans (BzW3.2.1 1 _ rfl), (hbK.cell (p := ⟨b_z2, 0, none⟩) Bz2W3.1).trans (Bz2W3.2.1 0 _ rfl), (hbK.cell (p := ⟨b_z2, 1, none⟩) Bz2W3.1).trans (Bz2W3.2.1 1 _ rfl), (hbK.cell (p := ⟨b_s1, 0, none⟩) Bn2.1).trans (Bn2.2.1 0 _ rfl), (hbK.cell (p := ⟨b_s1, 1, none⟩) Bn2.1).trans (Bn2.2.1 1 _ rfl)⟩)) ?_; repeat' (first | (with_reducible exact Below.refl _ _) | (with_reducible assumption) | (with_reducible refine Below.alloc ?_ ?_ _) | (with_reducible refine Below.setCell ?_ ?_ _) | (with_reducible refine Below.drew ?_) | (with_reducible refine below_drewN ?_ _) | (apply bthen2; (with_reducible assumption)) | go_size)))
    clear hK K
    (try simp only [Act.put, List.setIfInBounds_toArray, List.set_cons_zero, List.set_cons_succ])
    refine wpAnyX_one 9 rfl (by kernel_rfl) (fun K hK => ?_)
    go_simp
    ((try simp only [IntWalk.i64_left, kwt2]); go_at_call 100; clear tok3; refine (Ct2.out _ _ _ _ ?_).mono ?_; (focus (exact (by refine Ints.below iy2 ?_; repeat' (first | (with_reducible exact Below.refl _ _) | (with_reducible assumption) | (with_reducible refine Below.alloc ?_ ?_ _) | (with_reducible refine Below.setCell ?_ ?_ _) | (with_reducible refine Below.drew ?_) | (with_reducible refine below_drewN ?_ _) | (apply bthen2; (with_reducible assumption)) | go_size)))); rintro e u3 ⟨at2_, lt2_, ct2_, rfl, ot2, hb3⟩; have hz3 := hb3.size; (try simp only [World.size_alloc, World.size_setCell, World.size_drew, World.heap_drewN] at hz3); have it2 := ot2.ints; have qT := Box.below (show Box _ (b_s1) [.bool ns1, .slice as1_ ls1_ cs1_] from (by (repeat' (first | (with_reducible assumption) | (with_reducible refine Box.alloc ?_ _) | (with_reducible refine Box.drew ?_))))) hb3; have qT0 := qT.2.1 0 _ rfl; have qT1 := qT.2.1 1 _ rfl; have qTf := qT.2.2; have qTl := qT.1)
    go_wp2_with fail
    clear hHeld
    refine hK.out _ _ ?_ (fun hHeld => ?_)
    focus ((try dsimp only); (refine (fun hbK => And.intro hbK (by exact ⟨(hbK.cell (p := ⟨w.heap.size, 0, none⟩) BcW3.1).trans (BcW3.2.1 0 _ rfl), (hbK.cell (p := ⟨w.heap.size, 1, none⟩) BcW3.1).trans (BcW3.2.1 1 _ rfl), (hbK.cell (p := ⟨bx, 0, none⟩) BxW3.1).trans (BxW3.2.1 0 _ rfl), (hbK.cell (p := ⟨bx, 1, none⟩) BxW3.1).trans (BxW3.2.1 1 _ rfl), (hbK.cell (p := ⟨bz, 0, none⟩) BzW3.1).trans (BzW3.2.1 0 _ rfl), (hbK.cell (p := ⟨bz, 1, none⟩) BzW3.1).trans (BzW3.2.1 1 _ rfl), (hbK.cell (p := ⟨b_z2, 0, none⟩) Bz2W3.1).trans (Bz2W3.2.1 0 _ rfl), (hbK.cell (p := ⟨b_z2, 1, none⟩) Bz2W3.1).trans (Bz2W3.2.1 1 _ rfl), (hbK.cell (p := ⟨b_s1, 0, none⟩) Bn2.1).trans (Bn2.2.1 0 _ rfl), (hbK.cell (p := ⟨b_s1, 1, none⟩) Bn2.1).trans (Bn2.2.1 1 _ rfl)⟩)) ?_; repeat' (first | (with_reducible exact Below.refl _ _) | (with_reducible assumption) | (with_reducible refine Below.alloc ?_ ?_ _) | (with_reducible refine Below.setCell ?_ ?_ _) | (with_reducible refine Below.drew ?_) | (with_reducible refine below_drewN ?_ _) | (apply bthen2; (with_reducible assumption)) | go_size)))
    clear hK K
    (try simp only [Act.put, List.setIfInBounds_toArray, List.set_cons_zero, List.set_cons_succ])
    refine wpAnyX_one 10 rfl (by kernel_rfl) (fun K hK => ?_)
    go_simp
    (go_at_call 107; clear tok4; refine (Cs2.out _ _ _ _ _ _ _ ?_ ?_).mono ?_; (focus (exact (by refine Ints.below In2 ?_; repeat' (first | (with_reducible exact Below.refl _ _) | (with_reducible assumption) | (with_reducible refine Below.alloc ?_ ?_ _) | (with_reducible refine Below.setCell ?_ ?_ _) | (with_reducible refine Below.drew ?_) | (with_reducible refine below_drewN ?_ _) | (apply bthen2; (with_reducible assumption)) | go_size)))); (focus (exact (by refine Ints.below it2 ?_; repeat' (first | (with_reducible exact Below.refl _ _) | (with_reducible assumption) | (with_reducible refine Below.alloc ?_ ?_ _) | (with_reducible refine Below.setCell ?_ ?_ _) | (with_reducible refine Below.drew ?_) | (with_reducible refine below_drewN ?_ _) | (apply bthen2; (with_reducible assumption)) | go_size)))); rintro e u4 ⟨as2_, ls2_, cs2_, rfl, os2, hb4⟩; have hz4 := hb4.size; (try simp only [World.size_alloc, World.size_setCell, World.size_drew, World.heap_drewN] at hz4); have is2 := os2.ints; have qT := Box.below (show Box _ (b_s1) [.bool ns1, .slice as1_ ls1_ cs1_] from (by (repeat' (first | (with_reducible assumption) | (with_reducible refine Box.alloc ?_ _) | (with_reducible refine Box.drew ?_))))) hb4; have qT0 := qT.2.1 0 _ rfl; have qT1 := qT.2.1 1 _ rfl; have qTf := qT.2.2; have qTl := qT.1)
    go_wp2_with fail
    clear hHeld
    refine hK.out _ _ ?_ (fun hHeld => ?_)
    focus ((try dsimp only); (refine (fun hbK => And.intro hbK (by exact ⟨(hbK.cell (p := ⟨w.heap.size, 0, none⟩) BcW3.1).trans (BcW3.2.1 0 _ rfl), (hbK.cell (p := ⟨w.heap.size, 1, none⟩) BcW3.1).trans (BcW3.2.1 1 _ rfl), (hbK.cell (p := ⟨bx, 0, none⟩) BxW3.1).trans (BxW3.2.1 0 _ rfl), (hbK.cell (p := ⟨bx, 1, none⟩) BxW3.1).trans (BxW3.2.1 1 _ rfl), (hbK.cell (p := ⟨bz, 0, none⟩) BzW3.1).trans (BzW3.2.1 0 _ rfl), (hbK.cell (p := ⟨bz, 1, none⟩) BzW3.1).trans (BzW3.2.1 1 _ rfl), (hbK.cell (p := ⟨b_z2, 0, none⟩) Bz2W3.1).trans (Bz2W3.2.1 0 _ rfl), (hbK.cell (p := ⟨b_z2, 1, none⟩) Bz2W3.1).trans (Bz2W3.2.1 1 _ rfl), (hbK.cell (p := ⟨b_s1, 0, none⟩) Bn2.1).trans (Bn2.2.1 0 _ rfl), (hbK.cell (p := ⟨b_s1, 1, none⟩) Bn2.1).trans (Bn2.2.1 1 _ rfl)⟩)) ?_; repeat' (first | (with_reducible exact Below.refl _ _) | (with_reducible assumption) | (with_reducible refine Below.alloc ?_ ?_ _) | (with_reducible refine Below.setCell ?_ ?_ _) | (with_reducible refine Below.drew ?_) | (with_reducible refine below_drewN ?_ _) | (apply bthen2; (with_reducible assumption)) | go_size)))
    clear hK K
    (try simp only [Act.put, List.setIfInBounds_toArray, List.set_cons_zero, List.set_cons_succ])
    refine wpAnyX_last 11 rfl (by kernel_rfl) rfl (fun K hK => ?_)
    go_simp
    refine hK.out _ _ ?_
    clear hK K
    (try simp only [Act.put, List.setIfInBounds_toArray, List.set_cons_zero, List.set_cons_succ])
    refine wpAnyX_done (by kernel_rfl) ?_ _
    refine NoPanic.normal ?_
    all_goals (go_wp2_with fail; go_meet; exact ⟨u4, as2_, ls2_, cs2_, (by repeat' (first | (with_reducible exact Below.refl _ _) | (with_reducible assumption) | (with_reducible refine Below.alloc ?_ ?_ _) | (with_reducible refine Below.setCell ?_ ?_ _) | (with_reducible refine Below.drew ?_) | (with_reducible refine below_drewN ?_ _) | (apply bthen2; (with_reducible assumption)) | go_size)), is2, rfl⟩)
  case rest =>
  obtain ⟨V4, as2_, ls2_, cs2_, hb, In3, rfl⟩ := hcut
  have BcV4 := BcW3.below hb
  have BRV4 := BRW3.below hb
  have BxV4 := BxW3.below hb
  have BzV4 := BzW3.below hb
  have Bx2V4 := Bx2W3.below hb
  have Bz2V4 := Bz2W3.below hb
  have Bs1V4 := Bn2.below hb
  have IxV4 := IxW3.below hb
  have IzV4 := IzW3.below hb
  have Ix2V4 := Ix2W3.below hb
  have Iz2V4 := Iz2W3.below hb
  have Is1V4 := In2.below hb
  have hB := hB.trans (hb.mono hB.size)
  clear BcW3 BRW3 BxW3 BzW3 Bx2W3 Bz2W3 Bn2 IxW3 IzW3 Ix2W3 Iz2W3 In2 hb
  replace hl_c := BcV4.1
  replace hl_R := BRV4.1
  replace hl_x := BxV4.1
  replace hl_z := BzV4.1
  replace hl_x2 := Bx2V4.1
  replace hl_z2 := Bz2V4.1
  replace hl_s1 := Bs1V4.1
  obtain ⟨W4, hW⟩ : ∃ x, x = sto V4 (b_s1) ns2 (.slice as2_ ls2_ cs2_) := ⟨_, rfl⟩
  have BcW4 : Box W4 (w.heap.size) [.int .i64 A, .int .i64 B] := by rw [hW]; exact BcV4.sto_ne (by omega) _ _
  have BRW4 : Box W4 (w.heap.size + 1 + 1) [.bool false, .slice none 0 0] := by rw [hW]; exact BRV4.sto_ne (by omega) _ _
  have BxW4 : Box W4 (bx) [.bool nx, .slice a1 l1 c1] := by rw [hW]; exact BxV4.sto_ne (by omega) _ _
  have BzW4 : Box W4 (bz) [.bool nz, .slice a2 l2 c2] := by rw [hW]; exact BzV4.sto_ne (by omega) _ _
  have Bx2W4 : Box W4 (b_x2) [.bool nx2, .slice ax2_ lx2_ cx2_] := by rw [hW]; exact Bx2V4.sto_ne (by omega) _ _
  have Bz2W4 : Box W4 (b_z2) [.bool nz2, .slice az2_ lz2_ cz2_] := by rw [hW]; exact Bz2V4.sto_ne (by omega) _ _
  have Bs1W4 : Box W4 (b_s1) [.bool ns2, .slice as2_ ls2_ cs2_] := by rw [hW]; exact Bs1V4.sto _ _
  have IxW4 : Ints W4 (.slice a1 l1 c1) Dx := by rw [hW]; exact IxV4.sto Bs1V4 _ _
  have IzW4 : Ints W4 (.slice a2 l2 c2) Dz := by rw [hW]; exact IzV4.sto Bs1V4 _ _
  have Ix2W4 : Ints W4 (.slice ax2_ lx2_ cx2_) Dx2 := by rw [hW]; exact Ix2V4.sto Bs1V4 _ _
  have Iz2W4 : Ints W4 (.slice az2_ lz2_ cz2_) Dz2 := by rw [hW]; exact Iz2V4.sto Bs1V4 _ _
  have Is1W4 : Ints W4 (.slice as1_ ls1_ cs1_) Ds1 := by rw [hW]; exact Is1V4.sto Bs1V4 _ _
  have Is2W4 : Ints W4 (.slice as2_ ls2_ cs2_) Ds2 := by rw [hW]; exact In3.sto Bs1V4 _ _
  have hB : Below w.heap.size w W4 := by rw [hW]; exact below_sto hB (by omega) _ _
  rw [← hW]
  clear hW BcV4 BRV4 BxV4 BzV4 Bx2V4 Bz2V4 Bs1V4 IxV4 IzV4 Ix2V4 Iz2V4 Is1V4 In3
  replace hl_c := BcW4.1
  replace hl_R := BRW4.1
  replace hl_x := BxW4.1
  replace hl_z := BzW4.1
  replace hl_x2 := Bx2W4.1
  replace hl_z2 := Bz2W4.1
  replace hl_s1 := Bs1W4.1
  go_upto_region 5 with fail
  clear Cx2 Cz2 Cx4 Cxz Ct1 Cs1 Cy1 Cy2 Ct2 Cs2 kx2 kz2 kx4 kxz kt1 ks1 ky1 ky2 kt2 ks2 kz4 kt3 kv kx kz
  have tok1 := True.intro
  have tok2 := True.intro
  have tok3 := True.intro
  have qT := BRW4
  have qT0 := qT.2.1 0 _ rfl
  have qT1 := qT.2.1 1 _ rfl
  have qTf := qT.2.2
  have qTl := qT.1
  go_region_held3 (fun w' => ChgS (fun k => k = w.heap.size + 1 + 1) W4 w' ∧ w'.cell? ⟨w.heap.size, 0, none⟩ = some (.int .i64 A) ∧ w'.cell? ⟨w.heap.size, 1, none⟩ = some (.int .i64 B) ∧ w'.cell? ⟨b_s1, 0, none⟩ = some (.bool ns2) ∧ w'.cell? ⟨b_s1, 1, none⟩ = some (.slice as2_ ls2_ cs2_) ∧ w'.cell? ⟨b_z2, 0, none⟩ = some (.bool nz2) ∧ w'.cell? ⟨b_z2, 1, none⟩ = some (.slice az2_ lz2_ cz2_)) ((refine (fun hK => And.intro hK (by exact ⟨(hK.cell (b := w.heap.size) (o := 0) BcW4.1 (by omega)).trans (BcW4.2.1 0 _ rfl), (hK.cell (b := w.heap.size) (o := 1) BcW4.1 (by omega)).trans (BcW4.2.1 1 _ rfl), (hK.cell (b := b_s1) (o := 0) Bs1W4.1 (by omega)).trans (Bs1W4.2.1 0 _ rfl), (hK.cell (b := b_s1) (o := 1) Bs1W4.1 (by omega)).trans (Bs1W4.2.1 1 _ rfl), (hK.cell (b := b_z2) (o := 0) Bz2W4.1 (by omega)).trans (Bz2W4.2.1 0 _ rfl), (hK.cell (b := b_z2) (o := 1) Bz2W4.1 (by omega)).trans (Bz2W4.2.1 1 _ rfl)⟩)) ?_; repeat' (first | (with_reducible exact ChgS.refl _ _) | (with_reducible assumption) | (with_reducible refine ChgS.alloc ?_ _) | (with_reducible refine ChgS.drew ?_) | (with_reducible refine ChgS.set ?_ ?_ _) | (apply ChgS.stepB; (with_reducible assumption)) | (exact rfl)))) ((first | (go_at_call 98; clear tok1; refine (Cz4.out _ _ _ _ ?_).mono ?_; (focus (exact (by refine Ints.below Iz2W4 ?_; repeat' (first | (with_reducible exact Below.refl _ _) | (with_reducible assumption) | (with_reducible refine Below.alloc ?_ ?_ _) | (with_reducible refine Below.setCell ?_ ?_ _) | (with_reducible refine Below.drew ?_) | (with_reducible refine below_drewN ?_ _) | (apply bthen2; (with_reducible assumption)) | go_size)))); rintro e u1 ⟨az4_, lz4_, cz4_, rfl, oz4, hb1⟩; have hz1 := hb1.size; (try simp only [World.size_alloc, World.size_setCell, World.size_drew, World.heap_drewN] at hz1); have iz4 := oz4.ints; have qT := Box.below (show Box _ (w.heap.size + 1 + 1) [.bool false, .slice none 0 0] from (by (repeat' (first | (with_reducible assumption) | (with_reducible refine Box.alloc ?_ _) | (with_reducible refine Box.drew ?_))))) hb1; have qT0 := qT.2.1 0 _ rfl; have qT1 := qT.2.1 1 _ rfl; have qTf := qT.2.2; have qTl := qT.1) | ((try simp only [IntWalk.i64_left, kwt3]); go_at_call 100; clear tok2; refine (Ct3.out _ _ _ _ ?_).mono ?_; (focus (exact (by refine Ints.below iz4 ?_; repeat' (first | (with_reducible exact Below.refl _ _) | (with_reducible assumption) | (with_reducible refine Below.alloc ?_ ?_ _) | (with_reducible refine Below.setCell ?_ ?_ _) | (with_reducible refine Below.drew ?_) | (with_reducible refine below_drewN ?_ _) | (apply bthen2; (with_reducible assumption)) | go_size)))); rintro e u2 ⟨at3_, lt3_, ct3_, rfl, ot3, hb2⟩; have hz2 := hb2.size; (try simp only [World.size_alloc, World.size_setCell, World.size_drew, World.heap_drewN] at hz2); have it3 := ot3.ints; have qT := Box.below (show Box _ (w.heap.size + 1 + 1) [.bool false, .slice none 0 0] from (by (repeat' (first | (with_reducible assumption) | (with_reducible refine Box.alloc ?_ _) | (with_reducible refine Box.drew ?_))))) hb2; have qT0 := qT.2.1 0 _ rfl; have qT1 := qT.2.1 1 _ rfl; have qTf := qT.2.2; have qTl := qT.1) | (go_at_call 99; clear tok3; refine (Cv.out _ _ _ _ _ _ _ ?_ ?_).mono ?_; (focus (exact (by refine Ints.below Is2W4 ?_; repeat' (first | (with_reducible exact Below.refl _ _) | (with_reducible assumption) | (with_reducible refine Below.alloc ?_ ?_ _) | (with_reducible refine Below.setCell ?_ ?_ _) | (with_reducible refine Below.drew ?_) | (with_reducible refine below_drewN ?_ _) | (apply bthen2; (with_reducible assumption)) | go_size)))); (focus (exact (by refine Ints.below it3 ?_; repeat' (first | (with_reducible exact Below.refl _ _) | (with_reducible assumption) | (with_reducible refine Below.alloc ?_ ?_ _) | (with_reducible refine Below.setCell ?_ ?_ _) | (with_reducible refine Below.drew ?_) | (with_reducible refine below_drewN ?_ _) | (apply bthen2; (with_reducible assumption)) | go_size)))); rintro e u3 ⟨av_, lv_, cv_, rfl, ov, hb3⟩; have hz3 := hb3.size; (try simp only [World.size_alloc, World.size_setCell, World.size_drew, World.heap_drewN] at hz3); have iv := ov.ints; have qT := Box.below (show Box _ (w.heap.size + 1 + 1) [.bool false, .slice none 0 0] from (by (repeat' (first | (with_reducible assumption) | (with_reducible refine Box.alloc ?_ _) | (with_reducible refine Box.drew ?_))))) hb3; have qT0 := qT.2.1 0 _ rfl; have qT1 := qT.2.1 1 _ rfl; have qTf := qT.2.2; have qTl := qT.1)))
  all_goals
    go_wp2_with fail
    refine bodyPost_ret (v := .agg #[.bool nv, .slice av_ lv_ cv_]) (by simp [results, Try.results77, go_sem, qT0, qT1, qTf, qTl]) rfl ⟨_, _, _, rfl, ((ov.set (p := ⟨w.heap.size + 1 + 1, 0, none⟩) (by first | omega | (simp; done) | (simp; omega)) _).set (p := ⟨w.heap.size + 1 + 1, 1, none⟩) (by first | omega | (simp; done) | (simp; omega)) _).mono (by first | omega | (simp; done) | (simp; omega)), (by repeat' (first | (with_reducible exact Below.refl _ _) | (with_reducible assumption) | (with_reducible refine Below.alloc ?_ ?_ _) | (with_reducible refine Below.setCell ?_ ?_ _) | (with_reducible refine Below.drew ?_) | (with_reducible refine below_drewN ?_ _) | (apply bthen2; (with_reducible assumption)) | go_size))⟩

end Go.Proofs.Ytopdeoicglkbkaa
