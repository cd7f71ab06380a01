import Derived.Test.YtopdeoicglkbkaaDT2
import Derived.Test.YtopdeoicglkbkaaRegX
import Derived.Test.YtopdeoicglkbkaaBox
set_option linter.unusedSimpArgs false
set_option linter.unusedVariables false
namespace Go.Proofs.Ytopdeoicglkbkaa
open Go.RowKit
/-! ### the doubled ratio -/

noncomputable def dxX (A B x z : Int) : Int := if denP A B x z < 0 then (-numP A B x z) / dtP A B x z else numP A B x z / dtP A B x z
noncomputable def dxZ (A B x z : Int) : Int := if denP A B x z < 0 then (-denP A B x z) / dtP A B x z else denP A B x z / dtP A B x z
noncomputable def dxK (A B x z : Int) : Bool := ratB (decide (dxX A B x z < 0)) (dg (dxX A B x z).natAbs) (decide (dxZ A B x z < 0)) (dg (dxZ A B x z).natAbs)
noncomputable def dxR (A B x z : Int) : Bool × Bool × List Int × Bool × List Int :=
  if denP A B x z = 0 then (false, false, [], false, []) else (dxK A B x z, dxK A B x z && decide (dxX A B x z < 0), if dxK A B x z = true then dg (dxX A B x z).natAbs else [], dxK A B x z && decide (dxZ A B x z < 0), if dxK A B x z = true then dg (dxZ A B x z).natAbs else [])
theorem dxR_0 {A B x z : Int} (h : denP A B x z = 0) : dxR A B x z = (false, false, [], false, []) := by unfold dxR; rw [if_pos h]
theorem dxR_1 {A B x z : Int} (h : denP A B x z ≠ 0) : dxR A B x z = (dxK A B x z, dxK A B x z && decide (dxX A B x z < 0), if dxK A B x z = true then dg (dxX A B x z).natAbs else [], dxK A B x z && decide (dxZ A B x z < 0), if dxK A B x z = true then dg (dxZ A B x z).natAbs else []) := by unfold dxR; rw [if_neg h]
theorem dtP_pos {A B : Int} (hC : isC A B = true) (x z : Int) : 0 < dtP A B x z ∧ dtP A B x z ≤ 40000000000 := by
  obtain ⟨n1, n2⟩ := dN_rng hC
  have g1 := gcI_pos (numP A B x z) n1
  have g2 := gcI_pos (denP A B x z) g1.1
  unfold dtP; omega
theorem dtP_den (A B x z : Int) : dtP A B x z ∣ denP A B x z := by unfold dtP gcI; exact Int.gcd_dvd_left ..
theorem dtP_num (A B x z : Int) : dtP A B x z ∣ numP A B x z := by
  have h1 : dtP A B x z ∣ gcI (numP A B x z) (dN A B) := by unfold dtP gcI; exact Int.gcd_dvd_right ..
  have h2 : gcI (numP A B x z) (dN A B) ∣ numP A B x z := by unfold gcI; exact Int.gcd_dvd_left ..
  exact Int.dvd_trans h1 h2
theorem div_sgn {D G : Int} (hG : 0 < G) (h : G ∣ D) : (D / G < 0 ↔ D < 0) ∧ -(D / G) = (-D) / G ∧ (D / G).natAbs ≤ D.natAbs := by
  obtain ⟨q, rfl⟩ := h
  have e1 : G * q / G = q := Int.mul_ediv_cancel_left q (by omega)
  have e2 : -(G * q) / G = -q := by rw [← Int.mul_neg]; exact Int.mul_ediv_cancel_left (-q) (by omega)
  rw [e1, e2]
  refine ⟨⟨fun h => ?_, fun h => ?_⟩, rfl, ?_⟩
  · exact Int.mul_neg_of_pos_of_neg hG h
  · rcases Int.lt_or_le q 0 with h2 | h2
    · exact h2
    · have := Int.mul_nonneg (show 0 ≤ G by omega) h2; omega
  · rw [Int.natAbs_mul]; exact Nat.le_mul_of_pos_left _ (by omega)
theorem gcI_neg (a b : Int) : gcI (-a) b = gcI a b := by unfold gcI; rw [Int.neg_gcd]
theorem quo_len {N G : Int} (hG : 0 < G) (h : G ∣ N) {L : Nat} (hl : (dg N.natAbs).length ≤ L) : (dg (N / G).natAbs).length ≤ L := dg_mono (div_sgn hG h).2.2 hl
theorem box_made4' (w : World) (u v x y : Value) (T : TypeId) {b : Nat} (h : b = w.heap.size) : Box (w.alloc (Obj.cells #[u, v, x, y] T)) b [u, v, x, y] := by rw [h]; exact box_made4 w u v x y T
theorem dg_nil_len {z : Int} (h : (dg z.natAbs).length = 0) : z = 0 := by
  have := (dg_len_iff z.natAbs 0).1 (by omega)
  omega
theorem Twin.below {w w' : World} {B : Nat} {s1 s2 : Value} {xs ys : List Int} (h : Twin w B s1 xs s2 ys) (hb : Below w.heap.size w w') : Twin w' B s1 xs s2 ys := ⟨h.1.below hb, h.2.1.below hb, h.2.2⟩
theorem Twin.alloc {w : World} {B : Nat} {s1 s2 : Value} {xs ys : List Int} (h : Twin w B s1 xs s2 ys) (o : Obj) : Twin (w.alloc o) B s1 xs s2 ys := h.below (Below.alloc (Below.refl _ _) (Nat.le_refl _) o)

set_option maxRecDepth 100000 in
set_option maxHeartbeats 4000000 in
theorem doubleX_zero (A B x z : Int) (hC : isC A B = true) (a1 a2 : Option Addr) (l1 c1 l2 c2 : Nat) (w : World) (hx : Ints w (.slice a1 l1 c1) (dg x.natAbs)) (hz : Ints w (.slice a2 l2 c2) (dg z.natAbs)) (lx : (dg x.natAbs).length ≤ 80) (lz : (dg z.natAbs).length ≤ 80) (h0 : denP A B x z = 0) : Calls Try.prog 82 #[.agg #[.int .i64 A, .int .i64 B], .agg #[.bool (decide (x < 0)), .slice a1 l1 c1, .bool (decide (z < 0)), .slice a2 l2 c2]] w (GivesRT (dxR A B x z).1 (dxR A B x z).2.1 (dxR A B x z).2.2.1 (dxR A B x z).2.2.2.1 (dxR A B x z).2.2.2.2 w) := by
  obtain ⟨hA, hB⟩ := isC_rng hC
  obtain ⟨g1, g2⟩ := dtP_pos hC x z
  have hdN := dtP_num A B x z; have hdD := dtP_den A B x z
  have lN := numP_len hC lx lz; have lD := denP_len hC lx lz
  obtain ⟨sD, qD, -⟩ := div_sgn g1 hdD; obtain ⟨-, qN, -⟩ := div_sgn g1 hdN
  have lqN := quo_len g1 hdN lN; have lqD := quo_len g1 hdD lD
  rw [dxR_0 h0]
  have HD := Lib.hid (fun W h h' => denominatorOf_any A B x z hA hB a1 a2 l1 c1 l2 c2 W h h' lx lz)
  rw [h0] at HD
  have hd0 : dg (0 : Int).natAbs = [] := rfl
  unfold GivesZ at *
  rw [hd0] at HD
  dsimp only
  have HX := Lib.hid hx; have HZ := Lib.hid hz
  clear hx hz lx lz hC hA hB g1 g2 hdN hdD lN lD sD qD qN lqN lqD h0 hd0
  generalize decide ((0 : Int) < 0) = n0 at *
  generalize dg x.natAbs = Dx at *
  generalize dg z.natAbs = Dz at *
  generalize decide (x < 0) = nx at *
  generalize decide (z < 0) = nz at *
  go_enter Try.func82, Try.ntmps82
  go_upto_region 1 with fail
  refine name_world (fun V0 hV0 => ?_)
  have B0 : Box V0 (w.heap.size) [.int .i64 A, .int .i64 B] := by subst hV0; exact box_two (by first | omega | (simp; done) | (simp; omega)) (by simp [go_sem]) (by simp [go_sem]) (fun o => by simp [go_sem])
  have B1 : Box V0 (w.heap.size + 1) [.bool nx, .slice a1 l1 c1, .bool nz, .slice a2 l2 c2] := by subst hV0; exact box_four (by first | omega | (simp; done) | (simp; omega)) (by simp [go_sem]) (by simp [go_sem]) (by simp [go_sem]) (by simp [go_sem]) (fun o => by simp [go_sem])
  have B2 : Box V0 (w.heap.size + 1 + 1) [.bool false, .slice none 0 0, .bool false, .slice none 0 0] := by subst hV0; exact box_four (by first | omega | (simp; done) | (simp; omega)) (by simp [go_sem]) (by simp [go_sem]) (by simp [go_sem]) (by simp [go_sem]) (fun o => by simp [go_sem])
  have hB : Below w.heap.size w V0 := by subst hV0; exact (by repeat' (first | (with_reducible exact Below.refl _ _) | (with_reducible assumption) | (with_reducible refine Below.alloc ?_ ?_ _) | (with_reducible refine Below.setCell ?_ ?_ _) | (with_reducible refine Below.drew ?_) | (with_reducible refine below_drewN ?_ _) | (apply bthen2; (with_reducible assumption)) | go_size))
  clear hV0
  have hv0 := B2.1
  have IX := HX.out.below hB; have IZ := HZ.out.below hB
  have ec0 := B0.2.1 0 _ rfl
  have ec1 := B0.2.1 1 _ rfl
  have ecf := B0.2.2; have ecl := B0.1
  have er0 := B1.2.1 0 _ rfl
  have er1 := B1.2.1 1 _ rfl
  have er2 := B1.2.1 2 _ rfl
  have er3 := B1.2.1 3 _ rfl
  have erf := B1.2.2; have erl := B1.1
  go_wp2_with fail
  refine (HD.out _ ?_ ?_).mono ?_
  · refine Ints.below IX ?_; repeat' (first | (with_reducible exact Below.refl _ _) | (with_reducible assumption) | (with_reducible refine Below.alloc ?_ ?_ _) | (with_reducible refine Below.setCell ?_ ?_ _) | (with_reducible refine Below.drew ?_) | (with_reducible refine below_drewN ?_ _) | (apply bthen2; (with_reducible assumption)) | go_size)
  · refine Ints.below IZ ?_; repeat' (first | (with_reducible exact Below.refl _ _) | (with_reducible assumption) | (with_reducible refine Below.alloc ?_ ?_ _) | (with_reducible refine Below.setCell ?_ ?_ _) | (with_reducible refine Below.drew ?_) | (with_reducible refine below_drewN ?_ _) | (apply bthen2; (with_reducible assumption)) | go_size)
  rintro e wa ⟨a3, l3, c3, rfl, o3, hba⟩
  have hl3 : 0 = l3 := o3.ints.len.1
  subst hl3
  clear ec0 ec1 ecf ecl er0 er1 er2 er3 erf erl
  have Bc1 : Box _ (w.heap.size) [.int .i64 A, .int .i64 B] := Box.below (show Box _ (w.heap.size) [.int .i64 A, .int .i64 B] from (by (repeat' (first | (with_reducible assumption) | (with_reducible exact box_made2 _ _ _ _) | (with_reducible exact box_made4 _ _ _ _ _ _) | (refine box_made2' _ _ _ _ (by first | rfl | (simp; done))) | (refine box_made4' _ _ _ _ _ _ (by first | rfl | (simp; done))) | (with_reducible refine Box.alloc ?_ _) | (with_reducible refine Box.drew ?_) | (with_reducible refine Box.set_ne ?_ (by first | omega | (simp; done) | (simp; omega)) _))))) hba
  have Br1 : Box _ (w.heap.size + 1) [.bool nx, .slice a1 l1 c1, .bool nz, .slice a2 l2 c2] := Box.below (show Box _ (w.heap.size + 1) [.bool nx, .slice a1 l1 c1, .bool nz, .slice a2 l2 c2] from (by (repeat' (first | (with_reducible assumption) | (with_reducible exact box_made2 _ _ _ _) | (with_reducible exact box_made4 _ _ _ _ _ _) | (refine box_made2' _ _ _ _ (by first | rfl | (simp; done))) | (refine box_made4' _ _ _ _ _ _ (by first | rfl | (simp; done))) | (with_reducible refine Box.alloc ?_ _) | (with_reducible refine Box.drew ?_) | (with_reducible refine Box.set_ne ?_ (by first | omega | (simp; done) | (simp; omega)) _))))) hba
  have BR1 : Box _ (w.heap.size + 1 + 1) [.bool false, .slice none 0 0, .bool false, .slice none 0 0] := Box.below (show Box _ (w.heap.size + 1 + 1) [.bool false, .slice none 0 0, .bool false, .slice none 0 0] from (by (repeat' (first | (with_reducible assumption) | (with_reducible exact box_made2 _ _ _ _) | (with_reducible exact box_made4 _ _ _ _ _ _) | (refine box_made2' _ _ _ _ (by first | rfl | (simp; done))) | (refine box_made4' _ _ _ _ _ _ (by first | rfl | (simp; done))) | (with_reducible refine Box.alloc ?_ _) | (with_reducible refine Box.drew ?_) | (with_reducible refine Box.set_ne ?_ (by first | omega | (simp; done) | (simp; omega)) _))))) hba
  clear B0 B1 B2
  have hz1 := hba.size; (try simp only [World.size_alloc, World.size_setCell, World.size_drew, World.heap_drewN] at hz1)
  have eR0 := BR1.2.1 0 _ rfl
  have eR1 := BR1.2.1 1 _ rfl
  have eR2 := BR1.2.1 2 _ rfl
  have eR3 := BR1.2.1 3 _ rfl
  have eRf := BR1.2.2; have eRl := BR1.1
  go_wp2_with fail
  refine bodyPost_ret (v := .tuple #[.agg #[.bool false, .slice none 0 0, .bool false, .slice none 0 0], .bool false]) (by simp [results, Try.results82, go_sem, eR0, eR1, eR2, eR3, eRf, eRl]) rfl ⟨_, _, _, _, _, _, rfl, Twin.nil _ _, (by repeat' (first | (with_reducible exact Below.refl _ _) | (with_reducible assumption) | (with_reducible refine Below.alloc ?_ ?_ _) | (with_reducible refine Below.setCell ?_ ?_ _) | (with_reducible refine Below.drew ?_) | (with_reducible refine below_drewN ?_ _) | (apply bthen2; (with_reducible assumption)) | go_size))⟩
set_option maxRecDepth 100000 in
set_option maxHeartbeats 8000000 in
theorem doubleX_pos (A B x z : Int) (hC : isC A B = true) (a1 a2 : Option Addr) (l1 c1 l2 c2 : Nat) (w : World) (hx : Ints w (.slice a1 l1 c1) (dg x.natAbs)) (hz : Ints w (.slice a2 l2 c2) (dg z.natAbs)) (lx : (dg x.natAbs).length ≤ 80) (lz : (dg z.natAbs).length ≤ 80) (h0 : denP A B x z ≠ 0) (h1 : ¬ denP A B x z < 0) : Calls Try.prog 82 #[.agg #[.int .i64 A, .int .i64 B], .agg #[.bool (decide (x < 0)), .slice a1 l1 c1, .bool (decide (z < 0)), .slice a2 l2 c2]] w (GivesRT (dxR A B x z).1 (dxR A B x z).2.1 (dxR A B x z).2.2.1 (dxR A B x z).2.2.2.1 (dxR A B x z).2.2.2.2 w) := by
  obtain ⟨hA, hB⟩ := isC_rng hC
  obtain ⟨g1, g2⟩ := dtP_pos hC x z
  have hdN := dtP_num A B x z; have hdD := dtP_den A B x z
  have lN := numP_len hC lx lz; have lD := denP_len hC lx lz
  obtain ⟨sD, qD, -⟩ := div_sgn g1 hdD; obtain ⟨-, qN, -⟩ := div_sgn g1 hdN
  have lqN := quo_len g1 hdN lN; have lqD := quo_len g1 hdD lD
  rw [dxR_1 h0]
  have HD := Lib.hid (fun W h h' => denominatorOf_any A B x z hA hB a1 a2 l1 c1 l2 c2 W h h' lx lz)
  have HN := Lib.hid (fun W h h' => numeratorOf_any A B x z hA hB a1 a2 l1 c1 l2 c2 W h h' lx lz)
  have HG := Lib.hid (fun W h h' => divisorTaken_any A B x z hC a1 a2 l1 c1 l2 c2 W h h' lx lz)
  have HV1 := Lib.hid (fun a l c W h => divWhole_z (numP A B x z) a l c (dtP A B x z) W h lN g1 (by omega))
  have HV2 := Lib.hid (fun a l c W h => divWhole_z (denP A B x z) a l c (dtP A B x z) W h lD g1 (by omega))
  have HR := Lib.hid (fun a l c a' l' c' W h h' => isRatio_any (decide (dxX A B x z < 0)) (decide (dxZ A B x z < 0)) a a' l c l' c' (dg (dxX A B x z).natAbs) (dg (dxZ A B x z).natAbs) W h h')
  have eX : numP A B x z / dtP A B x z = dxX A B x z := by unfold dxX; rw [if_neg h1]
  have eZ : denP A B x z / dtP A B x z = dxZ A B x z := by unfold dxZ; rw [if_neg h1]
  have eq0 : decide (dxZ A B x z < 0) = false := by rw [← eZ]; exact decide_eq_false (fun h => h1 (sD.1 h))
  have hne : (dg (denP A B x z).natAbs).length ≠ 0 := fun h => h0 (by have := dg_nil_len h; omega)
  unfold GivesZ GivesZI at *
  rw [eX] at HV1; rw [eZ, eq0] at HV2; rw [eq0] at HR; rw [eq0]
  have hk : dxK A B x z = ratB (decide (dxX A B x z < 0)) (dg (dxX A B x z).natAbs) false (dg (dxZ A B x z).natAbs) := by unfold dxK; rw [eq0]
  rw [← hk] at HR
  dsimp only
  have HX := Lib.hid hx; have HZ := Lib.hid hz
  clear hk eX eZ eq0 hx hz lx lz hC hA hB g1 g2 hdN hdD lN lD sD qD qN lqN lqD h0 h1
  generalize dxK A B x z = ok at *
  generalize dg (dxX A B x z).natAbs = DX at *
  generalize decide (dxX A B x z < 0) = nX at *
  generalize dg (dxZ A B x z).natAbs = DZ at *
  generalize numP A B x z % dtP A B x z = R1 at *
  generalize denP A B x z % dtP A B x z = R2 at *
  generalize dtP A B x z = G at *
  generalize dg (numP A B x z).natAbs = DN at *
  generalize decide (numP A B x z < 0) = nN at *
  generalize dg (denP A B x z).natAbs = DD at *
  generalize decide (denP A B x z < 0) = nD at *
  generalize dg x.natAbs = Dx at *
  generalize dg z.natAbs = Dz at *
  generalize decide (x < 0) = nx at *
  generalize decide (z < 0) = nz at *
  have HF := Lib.hid (show (ok = true → nX = (ok && nX) ∧ DX = (if ok = true then DX else []) ∧ false = (ok && false) ∧ DZ = (if ok = true then DZ else [])) ∧ (ok = false → false = (ok && nX) ∧ [] = (if ok = true then DX else []) ∧ false = (ok && false) ∧ [] = (if ok = true then DZ else [])) from ⟨by rintro rfl; simp, by rintro rfl; simp⟩)
  generalize (ok && nX) = k1 at *
  generalize (if ok = true then DX else []) = k2 at *
  generalize (ok && false) = k3 at *
  generalize (if ok = true then DZ else []) = k4 at *
  go_enter Try.func82, Try.ntmps82
  go_upto_region 1 with fail
  refine name_world (fun V0 hV0 => ?_)
  have B0 : Box V0 (w.heap.size) [.int .i64 A, .int .i64 B] := by subst hV0; exact box_two (by first | omega | (simp; done) | (simp; omega)) (by simp [go_sem]) (by simp [go_sem]) (fun o => by simp [go_sem])
  have B1 : Box V0 (w.heap.size + 1) [.bool nx, .slice a1 l1 c1, .bool nz, .slice a2 l2 c2] := by subst hV0; exact box_four (by first | omega | (simp; done) | (simp; omega)) (by simp [go_sem]) (by simp [go_sem]) (by simp [go_sem]) (by simp [go_sem]) (fun o => by simp [go_sem])
  have B2 : Box V0 (w.heap.size + 1 + 1) [.bool false, .slice none 0 0, .bool false, .slice none 0 0] := by subst hV0; exact box_four (by first | omega | (simp; done) | (simp; omega)) (by simp [go_sem]) (by simp [go_sem]) (by simp [go_sem]) (by simp [go_sem]) (fun o => by simp [go_sem])
  have hB : Below w.heap.size w V0 := by subst hV0; exact (by repeat' (first | (with_reducible exact Below.refl _ _) | (with_reducible assumption) | (with_reducible refine Below.alloc ?_ ?_ _) | (with_reducible refine Below.setCell ?_ ?_ _) | (with_reducible refine Below.drew ?_) | (with_reducible refine below_drewN ?_ _) | (apply bthen2; (with_reducible assumption)) | go_size))
  clear hV0
  have hv0 := B2.1
  have IX := HX.out.below hB; have IZ := HZ.out.below hB
  have ec0 := B0.2.1 0 _ rfl
  have ec1 := B0.2.1 1 _ rfl
  have ecf := B0.2.2; have ecl := B0.1
  have er0 := B1.2.1 0 _ rfl
  have er1 := B1.2.1 1 _ rfl
  have er2 := B1.2.1 2 _ rfl
  have er3 := B1.2.1 3 _ rfl
  have erf := B1.2.2; have erl := B1.1
  go_wp2_with fail
  refine (HD.out _ ?_ ?_).mono ?_
  · refine Ints.below IX ?_; repeat' (first | (with_reducible exact Below.refl _ _) | (with_reducible assumption) | (with_reducible refine Below.alloc ?_ ?_ _) | (with_reducible refine Below.setCell ?_ ?_ _) | (with_reducible refine Below.drew ?_) | (with_reducible refine below_drewN ?_ _) | (apply bthen2; (with_reducible assumption)) | go_size)
  · refine Ints.below IZ ?_; repeat' (first | (with_reducible exact Below.refl _ _) | (with_reducible assumption) | (with_reducible refine Below.alloc ?_ ?_ _) | (with_reducible refine Below.setCell ?_ ?_ _) | (with_reducible refine Below.drew ?_) | (with_reducible refine below_drewN ?_ _) | (apply bthen2; (with_reducible assumption)) | go_size)
  rintro e wa ⟨a3, l3, c3, rfl, o3, hba⟩
  have h3 : ¬ ((l3 : Int) = 0) := by have := o3.ints.len.1; omega
  have i3 := o3.ints
  clear ec0 ec1 ecf ecl er0 er1 er2 er3 erf erl
  have Bc1 : Box _ (w.heap.size) [.int .i64 A, .int .i64 B] := Box.below (show Box _ (w.heap.size) [.int .i64 A, .int .i64 B] from (by (repeat' (first | (with_reducible assumption) | (with_reducible exact box_made2 _ _ _ _) | (with_reducible exact box_made4 _ _ _ _ _ _) | (refine box_made2' _ _ _ _ (by first | rfl | (simp; done))) | (refine box_made4' _ _ _ _ _ _ (by first | rfl | (simp; done))) | (with_reducible refine Box.alloc ?_ _) | (with_reducible refine Box.drew ?_) | (with_reducible refine Box.set_ne ?_ (by first | omega | (simp; done) | (simp; omega)) _))))) hba
  have Br1 : Box _ (w.heap.size + 1) [.bool nx, .slice a1 l1 c1, .bool nz, .slice a2 l2 c2] := Box.below (show Box _ (w.heap.size + 1) [.bool nx, .slice a1 l1 c1, .bool nz, .slice a2 l2 c2] from (by (repeat' (first | (with_reducible assumption) | (with_reducible exact box_made2 _ _ _ _) | (with_reducible exact box_made4 _ _ _ _ _ _) | (refine box_made2' _ _ _ _ (by first | rfl | (simp; done))) | (refine box_made4' _ _ _ _ _ _ (by first | rfl | (simp; done))) | (with_reducible refine Box.alloc ?_ _) | (with_reducible refine Box.drew ?_) | (with_reducible refine Box.set_ne ?_ (by first | omega | (simp; done) | (simp; omega)) _))))) hba
  have BR1 : Box _ (w.heap.size + 1 + 1) [.bool false, .slice none 0 0, .bool false, .slice none 0 0] := Box.below (show Box _ (w.heap.size + 1 + 1) [.bool false, .slice none 0 0, .bool false, .slice none 0 0] from (by (repeat' (first | (with_reducible assumption) | (with_reducible exact box_made2 _ _ _ _) | (with_reducible exact box_made4 _ _ _ _ _ _) | (refine box_made2' _ _ _ _ (by first | rfl | (simp; done))) | (refine box_made4' _ _ _ _ _ _ (by first | rfl | (simp; done))) | (with_reducible refine Box.alloc ?_ _) | (with_reducible refine Box.drew ?_) | (with_reducible refine Box.set_ne ?_ (by first | omega | (simp; done) | (simp; omega)) _))))) hba
  clear B0 B1 B2
  have hz1 := hba.size; (try simp only [World.size_alloc, World.size_setCell, World.size_drew, World.heap_drewN] at hz1)
  have ec0 := Bc1.2.1 0 _ rfl
  have ec1 := Bc1.2.1 1 _ rfl
  have ecf := Bc1.2.2; have ecl := Bc1.1
  have er0 := Br1.2.1 0 _ rfl
  have er1 := Br1.2.1 1 _ rfl
  have er2 := Br1.2.1 2 _ rfl
  have er3 := Br1.2.1 3 _ rfl
  have erf := Br1.2.2; have erl := Br1.1
  go_wp2_with fail
  refine (HG.out _ ?_ ?_).mono ?_
  · refine Ints.below IX ?_; repeat' (first | (with_reducible exact Below.refl _ _) | (with_reducible assumption) | (with_reducible refine Below.alloc ?_ ?_ _) | (with_reducible refine Below.setCell ?_ ?_ _) | (with_reducible refine Below.drew ?_) | (with_reducible refine below_drewN ?_ _) | (apply bthen2; (with_reducible assumption)) | go_size)
  · refine Ints.below IZ ?_; repeat' (first | (with_reducible exact Below.refl _ _) | (with_reducible assumption) | (with_reducible refine Below.alloc ?_ ?_ _) | (with_reducible refine Below.setCell ?_ ?_ _) | (with_reducible refine Below.drew ?_) | (with_reducible refine below_drewN ?_ _) | (apply bthen2; (with_reducible assumption)) | go_size)
  rintro e wb ⟨rfl, hbb⟩
  clear ec0 ec1 ecf ecl er0 er1 er2 er3 erf erl
  have Bc2 : Box _ (w.heap.size) [.int .i64 A, .int .i64 B] := Box.below (show Box _ (w.heap.size) [.int .i64 A, .int .i64 B] from (by (repeat' (first | (with_reducible assumption) | (with_reducible exact box_made2 _ _ _ _) | (with_reducible exact box_made4 _ _ _ _ _ _) | (refine box_made2' _ _ _ _ (by first | rfl | (simp; done))) | (refine box_made4' _ _ _ _ _ _ (by first | rfl | (simp; done))) | (with_reducible refine Box.alloc ?_ _) | (with_reducible refine Box.drew ?_) | (with_reducible refine Box.set_ne ?_ (by first | omega | (simp; done) | (simp; omega)) _))))) hbb
  have Br2 : Box _ (w.heap.size + 1) [.bool nx, .slice a1 l1 c1, .bool nz, .slice a2 l2 c2] := Box.below (show Box _ (w.heap.size + 1) [.bool nx, .slice a1 l1 c1, .bool nz, .slice a2 l2 c2] from (by (repeat' (first | (with_reducible assumption) | (with_reducible exact box_made2 _ _ _ _) | (with_reducible exact box_made4 _ _ _ _ _ _) | (refine box_made2' _ _ _ _ (by first | rfl | (simp; done))) | (refine box_made4' _ _ _ _ _ _ (by first | rfl | (simp; done))) | (with_reducible refine Box.alloc ?_ _) | (with_reducible refine Box.drew ?_) | (with_reducible refine Box.set_ne ?_ (by first | omega | (simp; done) | (simp; omega)) _))))) hbb
  have BR2 : Box _ (w.heap.size + 1 + 1) [.bool false, .slice none 0 0, .bool false, .slice none 0 0] := Box.below (show Box _ (w.heap.size + 1 + 1) [.bool false, .slice none 0 0, .bool false, .slice none 0 0] from (by (repeat' (first | (with_reducible assumption) | (with_reducible exact box_made2 _ _ _ _) | (with_reducible exact box_made4 _ _ _ _ _ _) | (refine box_made2' _ _ _ _ (by first | rfl | (simp; done))) | (refine box_made4' _ _ _ _ _ _ (by first | rfl | (simp; done))) | (with_reducible refine Box.alloc ?_ _) | (with_reducible refine Box.drew ?_) | (with_reducible refine Box.set_ne ?_ (by first | omega | (simp; done) | (simp; omega)) _))))) hbb
  have Bg2 : Box _ (wa.heap.size) [.bool nD, .slice a3 l3 c3] := Box.below (show Box _ (wa.heap.size) [.bool nD, .slice a3 l3 c3] from (by (repeat' (first | (with_reducible assumption) | (with_reducible exact box_made2 _ _ _ _) | (with_reducible exact box_made4 _ _ _ _ _ _) | (refine box_made2' _ _ _ _ (by first | rfl | (simp; done))) | (refine box_made4' _ _ _ _ _ _ (by first | rfl | (simp; done))) | (with_reducible refine Box.alloc ?_ _) | (with_reducible refine Box.drew ?_) | (with_reducible refine Box.set_ne ?_ (by first | omega | (simp; done) | (simp; omega)) _))))) hbb
  clear Bc1 Br1 BR1
  have hz2 := hbb.size; (try simp only [World.size_alloc, World.size_setCell, World.size_drew, World.heap_drewN] at hz2)
  have ec0 := Bc2.2.1 0 _ rfl
  have ec1 := Bc2.2.1 1 _ rfl
  have ecf := Bc2.2.2; have ecl := Bc2.1
  have er0 := Br2.2.1 0 _ rfl
  have er1 := Br2.2.1 1 _ rfl
  have er2 := Br2.2.1 2 _ rfl
  have er3 := Br2.2.1 3 _ rfl
  have erf := Br2.2.2; have erl := Br2.1
  go_wp2_with fail
  refine (HN.out _ ?_ ?_).mono ?_
  · refine Ints.below IX ?_; repeat' (first | (with_reducible exact Below.refl _ _) | (with_reducible assumption) | (with_reducible refine Below.alloc ?_ ?_ _) | (with_reducible refine Below.setCell ?_ ?_ _) | (with_reducible refine Below.drew ?_) | (with_reducible refine below_drewN ?_ _) | (apply bthen2; (with_reducible assumption)) | go_size)
  · refine Ints.below IZ ?_; repeat' (first | (with_reducible exact Below.refl _ _) | (with_reducible assumption) | (with_reducible refine Below.alloc ?_ ?_ _) | (with_reducible refine Below.setCell ?_ ?_ _) | (with_reducible refine Below.drew ?_) | (with_reducible refine below_drewN ?_ _) | (apply bthen2; (with_reducible assumption)) | go_size)
  rintro e wc ⟨a4, l4, c4, rfl, o4, hbc⟩
  clear ec0 ec1 ecf ecl er0 er1 er2 er3 erf erl
  have Bc3 : Box _ (w.heap.size) [.int .i64 A, .int .i64 B] := Box.below (show Box _ (w.heap.size) [.int .i64 A, .int .i64 B] from (by (repeat' (first | (with_reducible assumption) | (with_reducible exact box_made2 _ _ _ _) | (with_reducible exact box_made4 _ _ _ _ _ _) | (refine box_made2' _ _ _ _ (by first | rfl | (simp; done))) | (refine box_made4' _ _ _ _ _ _ (by first | rfl | (simp; done))) | (with_reducible refine Box.alloc ?_ _) | (with_reducible refine Box.drew ?_) | (with_reducible refine Box.set_ne ?_ (by first | omega | (simp; done) | (simp; omega)) _))))) hbc
  have Br3 : Box _ (w.heap.size + 1) [.bool nx, .slice a1 l1 c1, .bool nz, .slice a2 l2 c2] := Box.below (show Box _ (w.heap.size + 1) [.bool nx, .slice a1 l1 c1, .bool nz, .slice a2 l2 c2] from (by (repeat' (first | (with_reducible assumption) | (with_reducible exact box_made2 _ _ _ _) | (with_reducible exact box_made4 _ _ _ _ _ _) | (refine box_made2' _ _ _ _ (by first | rfl | (simp; done))) | (refine box_made4' _ _ _ _ _ _ (by first | rfl | (simp; done))) | (with_reducible refine Box.alloc ?_ _) | (with_reducible refine Box.drew ?_) | (with_reducible refine Box.set_ne ?_ (by first | omega | (simp; done) | (simp; omega)) _))))) hbc
  have BR3 : Box _ (w.heap.size + 1 + 1) [.bool false, .slice none 0 0, .bool false, .slice none 0 0] := Box.below (show Box _ (w.heap.size + 1 + 1) [.bool false, .slice none 0 0, .bool false, .slice none 0 0] from (by (repeat' (first | (with_reducible assumption) | (with_reducible exact box_made2 _ _ _ _) | (with_reducible exact box_made4 _ _ _ _ _ _) | (refine box_made2' _ _ _ _ (by first | rfl | (simp; done))) | (refine box_made4' _ _ _ _ _ _ (by first | rfl | (simp; done))) | (with_reducible refine Box.alloc ?_ _) | (with_reducible refine Box.drew ?_) | (with_reducible refine Box.set_ne ?_ (by first | omega | (simp; done) | (simp; omega)) _))))) hbc
  have Bg3 : Box _ (wa.heap.size) [.bool nD, .slice a3 l3 c3] := Box.below (show Box _ (wa.heap.size) [.bool nD, .slice a3 l3 c3] from (by (repeat' (first | (with_reducible assumption) | (with_reducible exact box_made2 _ _ _ _) | (with_reducible exact box_made4 _ _ _ _ _ _) | (refine box_made2' _ _ _ _ (by first | rfl | (simp; done))) | (refine box_made4' _ _ _ _ _ _ (by first | rfl | (simp; done))) | (with_reducible refine Box.alloc ?_ _) | (with_reducible refine Box.drew ?_) | (with_reducible refine Box.set_ne ?_ (by first | omega | (simp; done) | (simp; omega)) _))))) hbc
  clear Bc2 Br2 BR2 Bg2
  have hz3 := hbc.size; (try simp only [World.size_alloc, World.size_setCell, World.size_drew, World.heap_drewN] at hz3)
  go_wp2_with fail
  refine (HV1.out _ _ _ _ ?_).mono ?_
  · refine Ints.below o4.ints ?_; repeat' (first | (with_reducible exact Below.refl _ _) | (with_reducible assumption) | (with_reducible refine Below.alloc ?_ ?_ _) | (with_reducible refine Below.setCell ?_ ?_ _) | (with_reducible refine Below.drew ?_) | (with_reducible refine below_drewN ?_ _) | (apply bthen2; (with_reducible assumption)) | go_size)
  rintro e wd ⟨a5, l5, c5, rfl, o5, hbd⟩
  have Bc4 : Box _ (w.heap.size) [.int .i64 A, .int .i64 B] := Box.below (show Box _ (w.heap.size) [.int .i64 A, .int .i64 B] from (by (repeat' (first | (with_reducible assumption) | (with_reducible exact box_made2 _ _ _ _) | (with_reducible exact box_made4 _ _ _ _ _ _) | (refine box_made2' _ _ _ _ (by first | rfl | (simp; done))) | (refine box_made4' _ _ _ _ _ _ (by first | rfl | (simp; done))) | (with_reducible refine Box.alloc ?_ _) | (with_reducible refine Box.drew ?_) | (with_reducible refine Box.set_ne ?_ (by first | omega | (simp; done) | (simp; omega)) _))))) hbd
  have Br4 : Box _ (w.heap.size + 1) [.bool nx, .slice a1 l1 c1, .bool nz, .slice a2 l2 c2] := Box.below (show Box _ (w.heap.size + 1) [.bool nx, .slice a1 l1 c1, .bool nz, .slice a2 l2 c2] from (by (repeat' (first | (with_reducible assumption) | (with_reducible exact box_made2 _ _ _ _) | (with_reducible exact box_made4 _ _ _ _ _ _) | (refine box_made2' _ _ _ _ (by first | rfl | (simp; done))) | (refine box_made4' _ _ _ _ _ _ (by first | rfl | (simp; done))) | (with_reducible refine Box.alloc ?_ _) | (with_reducible refine Box.drew ?_) | (with_reducible refine Box.set_ne ?_ (by first | omega | (simp; done) | (simp; omega)) _))))) hbd
  have BR4 : Box _ (w.heap.size + 1 + 1) [.bool false, .slice none 0 0, .bool false, .slice none 0 0] := Box.below (show Box _ (w.heap.size + 1 + 1) [.bool false, .slice none 0 0, .bool false, .slice none 0 0] from (by (repeat' (first | (with_reducible assumption) | (with_reducible exact box_made2 _ _ _ _) | (with_reducible exact box_made4 _ _ _ _ _ _) | (refine box_made2' _ _ _ _ (by first | rfl | (simp; done))) | (refine box_made4' _ _ _ _ _ _ (by first | rfl | (simp; done))) | (with_reducible refine Box.alloc ?_ _) | (with_reducible refine Box.drew ?_) | (with_reducible refine Box.set_ne ?_ (by first | omega | (simp; done) | (simp; omega)) _))))) hbd
  have Bg4 : Box _ (wa.heap.size) [.bool nD, .slice a3 l3 c3] := Box.below (show Box _ (wa.heap.size) [.bool nD, .slice a3 l3 c3] from (by (repeat' (first | (with_reducible assumption) | (with_reducible exact box_made2 _ _ _ _) | (with_reducible exact box_made4 _ _ _ _ _ _) | (refine box_made2' _ _ _ _ (by first | rfl | (simp; done))) | (refine box_made4' _ _ _ _ _ _ (by first | rfl | (simp; done))) | (with_reducible refine Box.alloc ?_ _) | (with_reducible refine Box.drew ?_) | (with_reducible refine Box.set_ne ?_ (by first | omega | (simp; done) | (simp; omega)) _))))) hbd
  clear Bc3 Br3 BR3 Bg3
  have hz4 := hbd.size; (try simp only [World.size_alloc, World.size_setCell, World.size_drew, World.heap_drewN] at hz4)
  have eg0 := Bg4.2.1 0 _ rfl
  have eg1 := Bg4.2.1 1 _ rfl
  have egf := Bg4.2.2; have egl := Bg4.1
  go_wp2_with fail
  refine (HV2.out _ _ _ _ ?_).mono ?_
  · refine Ints.below i3 ?_; repeat' (first | (with_reducible exact Below.refl _ _) | (with_reducible assumption) | (with_reducible refine Below.alloc ?_ ?_ _) | (with_reducible refine Below.setCell ?_ ?_ _) | (with_reducible refine Below.drew ?_) | (with_reducible refine below_drewN ?_ _) | (apply bthen2; (with_reducible assumption)) | go_size)
  rintro e we ⟨a6, l6, c6, rfl, o6, hbe⟩
  clear eg0 eg1 egf egl
  have Bc5 : Box _ (w.heap.size) [.int .i64 A, .int .i64 B] := Box.below (show Box _ (w.heap.size) [.int .i64 A, .int .i64 B] from (by (repeat' (first | (with_reducible assumption) | (with_reducible exact box_made2 _ _ _ _) | (with_reducible exact box_made4 _ _ _ _ _ _) | (refine box_made2' _ _ _ _ (by first | rfl | (simp; done))) | (refine box_made4' _ _ _ _ _ _ (by first | rfl | (simp; done))) | (with_reducible refine Box.alloc ?_ _) | (with_reducible refine Box.drew ?_) | (with_reducible refine Box.set_ne ?_ (by first | omega | (simp; done) | (simp; omega)) _))))) hbe
  have Br5 : Box _ (w.heap.size + 1) [.bool nx, .slice a1 l1 c1, .bool nz, .slice a2 l2 c2] := Box.below (show Box _ (w.heap.size + 1) [.bool nx, .slice a1 l1 c1, .bool nz, .slice a2 l2 c2] from (by (repeat' (first | (with_reducible assumption) | (with_reducible exact box_made2 _ _ _ _) | (with_reducible exact box_made4 _ _ _ _ _ _) | (refine box_made2' _ _ _ _ (by first | rfl | (simp; done))) | (refine box_made4' _ _ _ _ _ _ (by first | rfl | (simp; done))) | (with_reducible refine Box.alloc ?_ _) | (with_reducible refine Box.drew ?_) | (with_reducible refine Box.set_ne ?_ (by first | omega | (simp; done) | (simp; omega)) _))))) hbe
  have BR5 : Box _ (w.heap.size + 1 + 1) [.bool false, .slice none 0 0, .bool false, .slice none 0 0] := Box.below (show Box _ (w.heap.size + 1 + 1) [.bool false, .slice none 0 0, .bool false, .slice none 0 0] from (by (repeat' (first | (with_reducible assumption) | (with_reducible exact box_made2 _ _ _ _) | (with_reducible exact box_made4 _ _ _ _ _ _) | (refine box_made2' _ _ _ _ (by first | rfl | (simp; done))) | (refine box_made4' _ _ _ _ _ _ (by first | rfl | (simp; done))) | (with_reducible refine Box.alloc ?_ _) | (with_reducible refine Box.drew ?_) | (with_reducible refine Box.set_ne ?_ (by first | omega | (simp; done) | (simp; omega)) _))))) hbe
  have Bg5 : Box _ (wa.heap.size) [.bool nD, .slice a3 l3 c3] := Box.below (show Box _ (wa.heap.size) [.bool nD, .slice a3 l3 c3] from (by (repeat' (first | (with_reducible assumption) | (with_reducible exact box_made2 _ _ _ _) | (with_reducible exact box_made4 _ _ _ _ _ _) | (refine box_made2' _ _ _ _ (by first | rfl | (simp; done))) | (refine box_made4' _ _ _ _ _ _ (by first | rfl | (simp; done))) | (with_reducible refine Box.alloc ?_ _) | (with_reducible refine Box.drew ?_) | (with_reducible refine Box.set_ne ?_ (by first | omega | (simp; done) | (simp; omega)) _))))) hbe
  have Bn5 : Box _ (wd.heap.size) [.bool nX, .slice a5 l5 c5] := Box.below (show Box _ (wd.heap.size) [.bool nX, .slice a5 l5 c5] from (by (repeat' (first | (with_reducible assumption) | (with_reducible exact box_made2 _ _ _ _) | (with_reducible exact box_made4 _ _ _ _ _ _) | (refine box_made2' _ _ _ _ (by first | rfl | (simp; done))) | (refine box_made4' _ _ _ _ _ _ (by first | rfl | (simp; done))) | (with_reducible refine Box.alloc ?_ _) | (with_reducible refine Box.drew ?_) | (with_reducible refine Box.set_ne ?_ (by first | omega | (simp; done) | (simp; omega)) _))))) hbe
  clear Bc4 Br4 BR4 Bg4
  have hz5 := hbe.size; (try simp only [World.size_alloc, World.size_setCell, World.size_drew, World.heap_drewN] at hz5)
  have i5 := o5.ints; have i6 := o6.ints
  have TW := Twin.of (o5.alloc (Obj.cells #[.bool nX, .slice a5 l5 c5] 26)) (by simp; omega) o6 hbe
  have en0 := Bn5.2.1 0 _ rfl
  have en1 := Bn5.2.1 1 _ rfl
  have enf := Bn5.2.2; have enl := Bn5.1
  go_wp2_with fail
  refine (HR.out _ _ _ _ _ _ _ ?_ ?_).mono ?_
  · refine Ints.below i5 ?_; repeat' (first | (with_reducible exact Below.refl _ _) | (with_reducible assumption) | (with_reducible refine Below.alloc ?_ ?_ _) | (with_reducible refine Below.setCell ?_ ?_ _) | (with_reducible refine Below.drew ?_) | (with_reducible refine below_drewN ?_ _) | (apply bthen2; (with_reducible assumption)) | go_size)
  · refine Ints.below i6 ?_; repeat' (first | (with_reducible exact Below.refl _ _) | (with_reducible assumption) | (with_reducible refine Below.alloc ?_ ?_ _) | (with_reducible refine Below.setCell ?_ ?_ _) | (with_reducible refine Below.drew ?_) | (with_reducible refine below_drewN ?_ _) | (apply bthen2; (with_reducible assumption)) | go_size)
  rintro e wf ⟨rfl, hbf⟩
  clear en0 en1 enf enl
  have Bc6 : Box _ (w.heap.size) [.int .i64 A, .int .i64 B] := Box.below (show Box _ (w.heap.size) [.int .i64 A, .int .i64 B] from (by (repeat' (first | (with_reducible assumption) | (with_reducible exact box_made2 _ _ _ _) | (with_reducible exact box_made4 _ _ _ _ _ _) | (refine box_made2' _ _ _ _ (by first | rfl | (simp; done))) | (refine box_made4' _ _ _ _ _ _ (by first | rfl | (simp; done))) | (with_reducible refine Box.alloc ?_ _) | (with_reducible refine Box.drew ?_) | (with_reducible refine Box.set_ne ?_ (by first | omega | (simp; done) | (simp; omega)) _))))) hbf
  have Br6 : Box _ (w.heap.size + 1) [.bool nx, .slice a1 l1 c1, .bool nz, .slice a2 l2 c2] := Box.below (show Box _ (w.heap.size + 1) [.bool nx, .slice a1 l1 c1, .bool nz, .slice a2 l2 c2] from (by (repeat' (first | (with_reducible assumption) | (with_reducible exact box_made2 _ _ _ _) | (with_reducible exact box_made4 _ _ _ _ _ _) | (refine box_made2' _ _ _ _ (by first | rfl | (simp; done))) | (refine box_made4' _ _ _ _ _ _ (by first | rfl | (simp; done))) | (with_reducible refine Box.alloc ?_ _) | (with_reducible refine Box.drew ?_) | (with_reducible refine Box.set_ne ?_ (by first | omega | (simp; done) | (simp; omega)) _))))) hbf
  have BR6 : Box _ (w.heap.size + 1 + 1) [.bool false, .slice none 0 0, .bool false, .slice none 0 0] := Box.below (show Box _ (w.heap.size + 1 + 1) [.bool false, .slice none 0 0, .bool false, .slice none 0 0] from (by (repeat' (first | (with_reducible assumption) | (with_reducible exact box_made2 _ _ _ _) | (with_reducible exact box_made4 _ _ _ _ _ _) | (refine box_made2' _ _ _ _ (by first | rfl | (simp; done))) | (refine box_made4' _ _ _ _ _ _ (by first | rfl | (simp; done))) | (with_reducible refine Box.alloc ?_ _) | (with_reducible refine Box.drew ?_) | (with_reducible refine Box.set_ne ?_ (by first | omega | (simp; done) | (simp; omega)) _))))) hbf
  have Bg6 : Box _ (wa.heap.size) [.bool nD, .slice a3 l3 c3] := Box.below (show Box _ (wa.heap.size) [.bool nD, .slice a3 l3 c3] from (by (repeat' (first | (with_reducible assumption) | (with_reducible exact box_made2 _ _ _ _) | (with_reducible exact box_made4 _ _ _ _ _ _) | (refine box_made2' _ _ _ _ (by first | rfl | (simp; done))) | (refine box_made4' _ _ _ _ _ _ (by first | rfl | (simp; done))) | (with_reducible refine Box.alloc ?_ _) | (with_reducible refine Box.drew ?_) | (with_reducible refine Box.set_ne ?_ (by first | omega | (simp; done) | (simp; omega)) _))))) hbf
  have Bn6 : Box _ (wd.heap.size) [.bool nX, .slice a5 l5 c5] := Box.below (show Box _ (wd.heap.size) [.bool nX, .slice a5 l5 c5] from (by (repeat' (first | (with_reducible assumption) | (with_reducible exact box_made2 _ _ _ _) | (with_reducible exact box_made4 _ _ _ _ _ _) | (refine box_made2' _ _ _ _ (by first | rfl | (simp; done))) | (refine box_made4' _ _ _ _ _ _ (by first | rfl | (simp; done))) | (with_reducible refine Box.alloc ?_ _) | (with_reducible refine Box.drew ?_) | (with_reducible refine Box.set_ne ?_ (by first | omega | (simp; done) | (simp; omega)) _))))) hbf
  have Bo6 : Box _ (we.heap.size + 1) [.bool nX, .slice a5 l5 c5, .bool false, .slice a6 l6 c6] := Box.below (show Box _ (we.heap.size + 1) [.bool nX, .slice a5 l5 c5, .bool false, .slice a6 l6 c6] from (by (repeat' (first | (with_reducible assumption) | (with_reducible exact box_made2 _ _ _ _) | (with_reducible exact box_made4 _ _ _ _ _ _) | (refine box_made2' _ _ _ _ (by first | rfl | (simp; done))) | (refine box_made4' _ _ _ _ _ _ (by first | rfl | (simp; done))) | (with_reducible refine Box.alloc ?_ _) | (with_reducible refine Box.drew ?_) | (with_reducible refine Box.set_ne ?_ (by first | omega | (simp; done) | (simp; omega)) _))))) hbf
  clear Bc5 Br5 BR5 Bg5 Bn5
  have hz6 := hbf.size; (try simp only [World.size_alloc, World.size_setCell, World.size_drew, World.heap_drewN] at hz6)
  have TW2 : Twin wf wc.heap.size (.slice a5 l5 c5) DX (.slice a6 l6 c6) DZ := (Twin.alloc (Twin.alloc TW _) _).below hbf
  have eR0 := BR6.2.1 0 _ rfl
  have eR1 := BR6.2.1 1 _ rfl
  have eR2 := BR6.2.1 2 _ rfl
  have eR3 := BR6.2.1 3 _ rfl
  have eRf := BR6.2.2; have eRl := BR6.1
  have eo0 := Bo6.2.1 0 _ rfl
  have eo1 := Bo6.2.1 1 _ rfl
  have eo2 := Bo6.2.1 2 _ rfl
  have eo3 := Bo6.2.1 3 _ rfl
  have eof := Bo6.2.2; have eol := Bo6.1
  cases ok
  · obtain ⟨rfl, rfl, rfl, rfl⟩ := HF.out.2 rfl
    go_wp2_with fail
    refine bodyPost_ret (v := .tuple #[.agg #[.bool false, .slice none 0 0, .bool false, .slice none 0 0], .bool false]) (by simp [results, Try.results82, go_sem, eR0, eR1, eR2, eR3, eRf, eRl]) rfl ⟨_, _, _, _, _, _, rfl, Twin.nil _ _, (by repeat' (first | (with_reducible exact Below.refl _ _) | (with_reducible assumption) | (with_reducible refine Below.alloc ?_ ?_ _) | (with_reducible refine Below.setCell ?_ ?_ _) | (with_reducible refine Below.drew ?_) | (with_reducible refine below_drewN ?_ _) | (apply bthen2; (with_reducible assumption)) | go_size))⟩
  · obtain ⟨rfl, rfl, rfl, rfl⟩ := HF.out.1 rfl
    go_wp2_with fail
    refine bodyPost_ret (v := .tuple #[.agg #[.bool nX, .slice a5 l5 c5, .bool false, .slice a6 l6 c6], .bool true]) (by simp [results, Try.results82, go_sem, eR0, eR1, eR2, eR3, eRf, eRl, eo0, eo1, eo2, eo3]) rfl ⟨_, _, _, _, _, _, rfl, ?_, (by repeat' (first | (with_reducible exact Below.refl _ _) | (with_reducible assumption) | (with_reducible refine Below.alloc ?_ ?_ _) | (with_reducible refine Below.setCell ?_ ?_ _) | (with_reducible refine Below.drew ?_) | (with_reducible refine below_drewN ?_ _) | (apply bthen2; (with_reducible assumption)) | go_size))⟩
    refine Twin.mono (B := wc.heap.size) ?_ (by omega)
    exact Twin.set (Twin.set (Twin.set (Twin.set TW2 (by show w.heap.size + 1 + 1 < wc.heap.size; omega) _) (by show w.heap.size + 1 + 1 < wc.heap.size; omega) _) (by show w.heap.size + 1 + 1 < wc.heap.size; omega) _) (by show w.heap.size + 1 + 1 < wc.heap.size; omega) _
set_option maxRecDepth 100000 in
set_option maxHeartbeats 8000000 in
theorem doubleX_neg (A B x z : Int) (hC : isC A B = true) (a1 a2 : Option Addr) (l1 c1 l2 c2 : Nat) (w : World) (hx : Ints w (.slice a1 l1 c1) (dg x.natAbs)) (hz : Ints w (.slice a2 l2 c2) (dg z.natAbs)) (lx : (dg x.natAbs).length ≤ 80) (lz : (dg z.natAbs).length ≤ 80) (h0 : denP A B x z ≠ 0) (h1 :  denP A B x z < 0) : Calls Try.prog 82 #[.agg #[.int .i64 A, .int .i64 B], .agg #[.bool (decide (x < 0)), .slice a1 l1 c1, .bool (decide (z < 0)), .slice a2 l2 c2]] w (GivesRT (dxR A B x z).1 (dxR A B x z).2.1 (dxR A B x z).2.2.1 (dxR A B x z).2.2.2.1 (dxR A B x z).2.2.2.2 w) := by
  obtain ⟨hA, hB⟩ := isC_rng hC
  obtain ⟨g1, g2⟩ := dtP_pos hC x z
  have hdN := dtP_num A B x z; have hdD := dtP_den A B x z
  have lN := numP_len hC lx lz; have lD := denP_len hC lx lz
  obtain ⟨sD, qD, -⟩ := div_sgn g1 hdD; obtain ⟨-, qN, -⟩ := div_sgn g1 hdN
  have lqN := quo_len g1 hdN lN; have lqD := quo_len g1 hdD lD
  rw [dxR_1 h0]
  have HD := Lib.hid (fun W h h' => denominatorOf_any A B x z hA hB a1 a2 l1 c1 l2 c2 W h h' lx lz)
  have HN := Lib.hid (fun W h h' => numeratorOf_any A B x z hA hB a1 a2 l1 c1 l2 c2 W h h' lx lz)
  have HG := Lib.hid (fun W h h' => divisorTaken_any A B x z hC a1 a2 l1 c1 l2 c2 W h h' lx lz)
  have HV1 := Lib.hid (fun a l c W h => divWhole_z (numP A B x z) a l c (dtP A B x z) W h lN g1 (by omega))
  have HV2 := Lib.hid (fun a l c W h => divWhole_z (denP A B x z) a l c (dtP A B x z) W h lD g1 (by omega))
  have HR := Lib.hid (fun a l c a' l' c' W h h' => isRatio_any (decide (dxX A B x z < 0)) (decide (dxZ A B x z < 0)) a a' l c l' c' (dg (dxX A B x z).natAbs) (dg (dxZ A B x z).natAbs) W h h')
  have HM1 := Lib.hid (fun a l c W h => negated_any (numP A B x z / dtP A B x z) a l c W h lqN)
  have HM2 := Lib.hid (fun a l c W h => negated_any (denP A B x z / dtP A B x z) a l c W h lqD)
  have eX : -(numP A B x z / dtP A B x z) = dxX A B x z := by unfold dxX; rw [if_pos h1, qN]
  have eZ : -(denP A B x z / dtP A B x z) = dxZ A B x z := by unfold dxZ; rw [if_pos h1, qD]
  rw [eX] at HM1; rw [eZ] at HM2
  have eq0 : decide (denP A B x z / dtP A B x z < 0) = true := decide_eq_true (sD.2 h1)
  have hne : (dg (denP A B x z).natAbs).length ≠ 0 := fun h => h0 (by have := dg_nil_len h; omega)
  unfold GivesZ GivesZI at *
  rw [eq0] at HV2 HM2
  have hk : dxK A B x z = ratB (decide (dxX A B x z < 0)) (dg (dxX A B x z).natAbs) (decide (dxZ A B x z < 0)) (dg (dxZ A B x z).natAbs) := by unfold dxK; rfl
  rw [← hk] at HR
  dsimp only
  have HX := Lib.hid hx; have HZ := Lib.hid hz
  clear hk eX eZ eq0 hx hz lx lz hC hA hB g1 g2 hdN hdD lN lD sD qD qN lqN lqD h0 h1
  generalize dxK A B x z = ok at *
  generalize dg (dxX A B x z).natAbs = DX at *
  generalize decide (dxX A B x z < 0) = nX at *
  generalize dg (dxZ A B x z).natAbs = DZ at *
  generalize decide (dxZ A B x z < 0) = nZ at *
  generalize dg (numP A B x z / dtP A B x z).natAbs = DQ at *
  generalize decide (numP A B x z / dtP A B x z < 0) = nQ at *
  generalize dg (denP A B x z / dtP A B x z).natAbs = DE at *
  generalize numP A B x z % dtP A B x z = R1 at *
  generalize denP A B x z % dtP A B x z = R2 at *
  generalize dtP A B x z = G at *
  generalize dg (numP A B x z).natAbs = DN at *
  generalize decide (numP A B x z < 0) = nN at *
  generalize dg (denP A B x z).natAbs = DD at *
  generalize decide (denP A B x z < 0) = nD at *
  generalize dg x.natAbs = Dx at *
  generalize dg z.natAbs = Dz at *
  generalize decide (x < 0) = nx at *
  generalize decide (z < 0) = nz at *
  have HF := Lib.hid (show (ok = true → nX = (ok && nX) ∧ DX = (if ok = true then DX else []) ∧ nZ = (ok && nZ) ∧ DZ = (if ok = true then DZ else [])) ∧ (ok = false → false = (ok && nX) ∧ [] = (if ok = true then DX else []) ∧ false = (ok && nZ) ∧ [] = (if ok = true then DZ else [])) from ⟨by rintro rfl; simp, by rintro rfl; simp⟩)
  generalize (ok && nX) = k1 at *
  generalize (if ok = true then DX else []) = k2 at *
  generalize (ok && nZ) = k3 at *
  generalize (if ok = true then DZ else []) = k4 at *
  go_enter Try.func82, Try.ntmps82
  go_upto_region 1 with fail
  refine name_world (fun V0 hV0 => ?_)
  have B0 : Box V0 (w.heap.size) [.int .i64 A, .int .i64 B] := by subst hV0; exact box_two (by first | omega | (simp; done) | (simp; omega)) (by simp [go_sem]) (by simp [go_sem]) (fun o => by simp [go_sem])
  have B1 : Box V0 (w.heap.size + 1) [.bool nx, .slice a1 l1 c1, .bool nz, .slice a2 l2 c2] := by subst hV0; exact box_four (by first | omega | (simp; done) | (simp; omega)) (by simp [go_sem]) (by simp [go_sem]) (by simp [go_sem]) (by simp [go_sem]) (fun o => by simp [go_sem])
  have B2 : Box V0 (w.heap.size + 1 + 1) [.bool false, .slice none 0 0, .bool false, .slice none 0 0] := by subst hV0; exact box_four (by first | omega | (simp; done) | (simp; omega)) (by simp [go_sem]) (by simp [go_sem]) (by simp [go_sem]) (by simp [go_sem]) (fun o => by simp [go_sem])
  have hB : Below w.heap.size w V0 := by subst hV0; exact (by repeat' (first | (with_reducible exact Below.refl _ _) | (with_reducible assumption) | (with_reducible refine Below.alloc ?_ ?_ _) | (with_reducible refine Below.setCell ?_ ?_ _) | (with_reducible refine Below.drew ?_) | (with_reducible refine below_drewN ?_ _) | (apply bthen2; (with_reducible assumption)) | go_size))
  clear hV0
  have hv0 := B2.1
  have IX := HX.out.below hB; have IZ := HZ.out.below hB
  have ec0 := B0.2.1 0 _ rfl
  have ec1 := B0.2.1 1 _ rfl
  have ecf := B0.2.2; have ecl := B0.1
  have er0 := B1.2.1 0 _ rfl
  have er1 := B1.2.1 1 _ rfl
  have er2 := B1.2.1 2 _ rfl
  have er3 := B1.2.1 3 _ rfl
  have erf := B1.2.2; have erl := B1.1
  go_wp2_with fail
  refine (HD.out _ ?_ ?_).mono ?_
  · refine Ints.below IX ?_; repeat' (first | (with_reducible exact Below.refl _ _) | (with_reducible assumption) | (with_reducible refine Below.alloc ?_ ?_ _) | (with_reducible refine Below.setCell ?_ ?_ _) | (with_reducible refine Below.drew ?_) | (with_reducible refine below_drewN ?_ _) | (apply bthen2; (with_reducible assumption)) | go_size)
  · refine Ints.below IZ ?_; repeat' (first | (with_reducible exact Below.refl _ _) | (with_reducible assumption) | (with_reducible refine Below.alloc ?_ ?_ _) | (with_reducible refine Below.setCell ?_ ?_ _) | (with_reducible refine Below.drew ?_) | (with_reducible refine below_drewN ?_ _) | (apply bthen2; (with_reducible assumption)) | go_size)
  rintro e wa ⟨a3, l3, c3, rfl, o3, hba⟩
  have h3 : ¬ ((l3 : Int) = 0) := by have := o3.ints.len.1; omega
  have i3 := o3.ints
  clear ec0 ec1 ecf ecl er0 er1 er2 er3 erf erl
  have Bc1 : Box _ (w.heap.size) [.int .i64 A, .int .i64 B] := Box.below (show Box _ (w.heap.size) [.int .i64 A, .int .i64 B] from (by (repeat' (first | (with_reducible assumption) | (with_reducible exact box_made2 _ _ _ _) | (with_reducible exact box_made4 _ _ _ _ _ _) | (refine box_made2' _ _ _ _ (by first | rfl | (simp; done))) | (refine box_made4' _ _ _ _ _ _ (by first | rfl | (simp; done))) | (with_reducible refine Box.alloc ?_ _) | (with_reducible refine Box.drew ?_) | (with_reducible refine Box.set_ne ?_ (by first | omega | (simp; done) | (simp; omega)) _))))) hba
  have Br1 : Box _ (w.heap.size + 1) [.bool nx, .slice a1 l1 c1, .bool nz, .slice a2 l2 c2] := Box.below (show Box _ (w.heap.size + 1) [.bool nx, .slice a1 l1 c1, .bool nz, .slice a2 l2 c2] from (by (repeat' (first | (with_reducible assumption) | (with_reducible exact box_made2 _ _ _ _) | (with_reducible exact box_made4 _ _ _ _ _ _) | (refine box_made2' _ _ _ _ (by first | rfl | (simp; done))) | (refine box_made4' _ _ _ _ _ _ (by first | rfl | (simp; done))) | (with_reducible refine Box.alloc ?_ _) | (with_reducible refine Box.drew ?_) | (with_reducible refine Box.set_ne ?_ (by first | omega | (simp; done) | (simp; omega)) _))))) hba
  have BR1 : Box _ (w.heap.size + 1 + 1) [.bool false, .slice none 0 0, .bool false, .slice none 0 0] := Box.below (show Box _ (w.heap.size + 1 + 1) [.bool false, .slice none 0 0, .bool false, .slice none 0 0] from (by (repeat' (first | (with_reducible assumption) | (with_reducible exact box_made2 _ _ _ _) | (with_reducible exact box_made4 _ _ _ _ _ _) | (refine box_made2' _ _ _ _ (by first | rfl | (simp; done))) | (refine box_made4' _ _ _ _ _ _ (by first | rfl | (simp; done))) | (with_reducible refine Box.alloc ?_ _) | (with_reducible refine Box.drew ?_) | (with_reducible refine Box.set_ne ?_ (by first | omega | (simp; done) | (simp; omega)) _))))) hba
  clear B0 B1 B2
  have hz1 := hba.size; (try simp only [World.size_alloc, World.size_setCell, World.size_drew, World.heap_drewN] at hz1)
  have ec0 := Bc1.2.1 0 _ rfl
  have ec1 := Bc1.2.1 1 _ rfl
  have ecf := Bc1.2.2; have ecl := Bc1.1
  have er0 := Br1.2.1 0 _ rfl
  have er1 := Br1.2.1 1 _ rfl
  have er2 := Br1.2.1 2 _ rfl
  have er3 := Br1.2.1 3 _ rfl
  have erf := Br1.2.2; have erl := Br1.1
  go_wp2_with fail
  refine (HG.out _ ?_ ?_).mono ?_
  · refine Ints.below IX ?_; repeat' (first | (with_reducible exact Below.refl _ _) | (with_reducible assumption) | (with_reducible refine Below.alloc ?_ ?_ _) | (with_reducible refine Below.setCell ?_ ?_ _) | (with_reducible refine Below.drew ?_) | (with_reducible refine below_drewN ?_ _) | (apply bthen2; (with_reducible assumption)) | go_size)
  · refine Ints.below IZ ?_; repeat' (first | (with_reducible exact Below.refl _ _) | (with_reducible assumption) | (with_reducible refine Below.alloc ?_ ?_ _) | (with_reducible refine Below.setCell ?_ ?_ _) | (with_reducible refine Below.drew ?_) | (with_reducible refine below_drewN ?_ _) | (apply bthen2; (with_reducible assumption)) | go_size)
  rintro e wb ⟨rfl, hbb⟩
  clear ec0 ec1 ecf ecl er0 er1 er2 er3 erf erl
  have Bc2 : Box _ (w.heap.size) [.int .i64 A, .int .i64 B] := Box.below (show Box _ (w.heap.size) [.int .i64 A, .int .i64 B] from (by (repeat' (first | (with_reducible assumption) | (with_reducible exact box_made2 _ _ _ _) | (with_reducible exact box_made4 _ _ _ _ _ _) | (refine box_made2' _ _ _ _ (by first | rfl | (simp; done))) | (refine box_made4' _ _ _ _ _ _ (by first | rfl | (simp; done))) | (with_reducible refine Box.alloc ?_ _) | (with_reducible refine Box.drew ?_) | (with_reducible refine Box.set_ne ?_ (by first | omega | (simp; done) | (simp; omega)) _))))) hbb
  have Br2 : Box _ (w.heap.size + 1) [.bool nx, .slice a1 l1 c1, .bool nz, .slice a2 l2 c2] := Box.below (show Box _ (w.heap.size + 1) [.bool nx, .slice a1 l1 c1, .bool nz, .slice a2 l2 c2] from (by (repeat' (first | (with_reducible assumption) | (with_reducible exact box_made2 _ _ _ _) | (with_reducible exact box_made4 _ _ _ _ _ _) | (refine box_made2' _ _ _ _ (by first | rfl | (simp; done))) | (refine box_made4' _ _ _ _ _ _ (by first | rfl | (simp; done))) | (with_reducible refine Box.alloc ?_ _) | (with_reducible refine Box.drew ?_) | (with_reducible refine Box.set_ne ?_ (by first | omega | (simp; done) | (simp; omega)) _))))) hbb
  have BR2 : Box _ (w.heap.size + 1 + 1) [.bool false, .slice none 0 0, .bool false, .slice none 0 0] := Box.below (show Box _ (w.heap.size + 1 + 1) [.bool false, .slice none 0 0, .bool false, .slice none 0 0] from (by (repeat' (first | (with_reducible assumption) | (with_reducible exact box_made2 _ _ _ _) | (with_reducible exact box_made4 _ _ _ _ _ _) | (refine box_made2' _ _ _ _ (by first | rfl | (simp; done))) | (refine box_made4' _ _ _ _ _ _ (by first | rfl | (simp; done))) | (with_reducible refine Box.alloc ?_ _) | (with_reducible refine Box.drew ?_) | (with_reducible refine Box.set_ne ?_ (by first | omega | (simp; done) | (simp; omega)) _))))) hbb
  have Bg2 : Box _ (wa.heap.size) [.bool nD, .slice a3 l3 c3] := Box.below (show Box _ (wa.heap.size) [.bool nD, .slice a3 l3 c3] from (by (repeat' (first | (with_reducible assumption) | (with_reducible exact box_made2 _ _ _ _) | (with_reducible exact box_made4 _ _ _ _ _ _) | (refine box_made2' _ _ _ _ (by first | rfl | (simp; done))) | (refine box_made4' _ _ _ _ _ _ (by first | rfl | (simp; done))) | (with_reducible refine Box.alloc ?_ _) | (with_reducible refine Box.drew ?_) | (with_reducible refine Box.set_ne ?_ (by first | omega | (simp; done) | (simp; omega)) _))))) hbb
  clear Bc1 Br1 BR1
  have hz2 := hbb.size; (try simp only [World.size_alloc, World.size_setCell, World.size_drew, World.heap_drewN] at hz2)
  have ec0 := Bc2.2.1 0 _ rfl
  have ec1 := Bc2.2.1 1 _ rfl
  have ecf := Bc2.2.2; have ecl := Bc2.1
  have er0 := Br2.2.1 0 _ rfl
  have er1 := Br2.2.1 1 _ rfl
  have er2 := Br2.2.1 2 _ rfl
  have er3 := Br2.2.1 3 _ rfl
  have erf := Br2.2.2; have erl := Br2.1
  go_wp2_with fail
  refine (HN.out _ ?_ ?_).mono ?_
  · refine Ints.below IX ?_; repeat' (first | (with_reducible exact Below.refl _ _) | (with_reducible assumption) | (with_reducible refine Below.alloc ?_ ?_ _) | (with_reducible refine Below.setCell ?_ ?_ _) | (with_reducible refine Below.drew ?_) | (with_reducible refine below_drewN ?_ _) | (apply bthen2; (with_reducible assumption)) | go_size)
  · refine Ints.below IZ ?_; repeat' (first | (with_reducible exact Below.refl _ _) | (with_reducible assumption) | (with_reducible refine Below.alloc ?_ ?_ _) | (with_reducible refine Below.setCell ?_ ?_ _) | (with_reducible refine Below.drew ?_) | (with_reducible refine below_drewN ?_ _) | (apply bthen2; (with_reducible assumption)) | go_size)
  rintro e wc ⟨a4, l4, c4, rfl, o4, hbc⟩
  clear ec0 ec1 ecf ecl er0 er1 er2 er3 erf erl
  have Bc3 : Box _ (w.heap.size) [.int .i64 A, .int .i64 B] := Box.below (show Box _ (w.heap.size) [.int .i64 A, .int .i64 B] from (by (repeat' (first | (with_reducible assumption) | (with_reducible exact box_made2 _ _ _ _) | (with_reducible exact box_made4 _ _ _ _ _ _) | (refine box_made2' _ _ _ _ (by first | rfl | (simp; done))) | (refine box_made4' _ _ _ _ _ _ (by first | rfl | (simp; done))) | (with_reducible refine Box.alloc ?_ _) | (with_reducible refine Box.drew ?_) | (with_reducible refine Box.set_ne ?_ (by first | omega | (simp; done) | (simp; omega)) _))))) hbc
  have Br3 : Box _ (w.heap.size + 1) [.bool nx, .slice a1 l1 c1, .bool nz, .slice a2 l2 c2] := Box.below (show Box _ (w.heap.size + 1) [.bool nx, .slice a1 l1 c1, .bool nz, .slice a2 l2 c2] from (by (repeat' (first | (with_reducible assumption) | (with_reducible exact box_made2 _ _ _ _) | (with_reducible exact box_made4 _ _ _ _ _ _) | (refine box_made2' _ _ _ _ (by first | rfl | (simp; done))) | (refine box_made4' _ _ _ _ _ _ (by first | rfl | (simp; done))) | (with_reducible refine Box.alloc ?_ _) | (with_reducible refine Box.drew ?_) | (with_reducible refine Box.set_ne ?_ (by first | omega | (simp; done) | (simp; omega)) _))))) hbc
  have BR3 : Box _ (w.heap.size + 1 + 1) [.bool false, .slice none 0 0, .bool false, .slice none 0 0] := Box.below (show Box _ (w.heap.size + 1 + 1) [.bool false, .slice none 0 0, .bool false, .slice none 0 0] from (by (repeat' (first | (with_reducible assumption) | (with_reducible exact box_made2 _ _ _ _) | (with_reducible exact box_made4 _ _ _ _ _ _) | (refine box_made2' _ _ _ _ (by first | rfl | (simp; done))) | (refine box_made4' _ _ _ _ _ _ (by first | rfl | (simp; done))) | (with_reducible refine Box.alloc ?_ _) | (with_reducible refine Box.drew ?_) | (with_reducible refine Box.set_ne ?_ (by first | omega | (simp; done) | (simp; omega)) _))))) hbc
  have Bg3 : Box _ (wa.heap.size) [.bool nD, .slice a3 l3 c3] := Box.below (show Box _ (wa.heap.size) [.bool nD, .slice a3 l3 c3] from (by (repeat' (first | (with_reducible assumption) | (with_reducible exact box_made2 _ _ _ _) | (with_reducible exact box_made4 _ _ _ _ _ _) | (refine box_made2' _ _ _ _ (by first | rfl | (simp; done))) | (refine box_made4' _ _ _ _ _ _ (by first | rfl | (simp; done))) | (with_reducible refine Box.alloc ?_ _) | (with_reducible refine Box.drew ?_) | (with_reducible refine Box.set_ne ?_ (by first | omega | (simp; done) | (simp; omega)) _))))) hbc
  clear Bc2 Br2 BR2 Bg2
  have hz3 := hbc.size; (try simp only [World.size_alloc, World.size_setCell, World.size_drew, World.heap_drewN] at hz3)
  go_wp2_with fail
  refine (HV1.out _ _ _ _ ?_).mono ?_
  · refine Ints.below o4.ints ?_; repeat' (first | (with_reducible exact Below.refl _ _) | (with_reducible assumption) | (with_reducible refine Below.alloc ?_ ?_ _) | (with_reducible refine Below.setCell ?_ ?_ _) | (with_reducible refine Below.drew ?_) | (with_reducible refine below_drewN ?_ _) | (apply bthen2; (with_reducible assumption)) | go_size)
  rintro e wd ⟨a5, l5, c5, rfl, o5, hbd⟩
  have Bc4 : Box _ (w.heap.size) [.int .i64 A, .int .i64 B] := Box.below (show Box _ (w.heap.size) [.int .i64 A, .int .i64 B] from (by (repeat' (first | (with_reducible assumption) | (with_reducible exact box_made2 _ _ _ _) | (with_reducible exact box_made4 _ _ _ _ _ _) | (refine box_made2' _ _ _ _ (by first | rfl | (simp; done))) | (refine box_made4' _ _ _ _ _ _ (by first | rfl | (simp; done))) | (with_reducible refine Box.alloc ?_ _) | (with_reducible refine Box.drew ?_) | (with_reducible refine Box.set_ne ?_ (by first | omega | (simp; done) | (simp; omega)) _))))) hbd
  have Br4 : Box _ (w.heap.size + 1) [.bool nx, .slice a1 l1 c1, .bool nz, .slice a2 l2 c2] := Box.below (show Box _ (w.heap.size + 1) [.bool nx, .slice a1 l1 c1, .bool nz, .slice a2 l2 c2] from (by (repeat' (first | (with_reducible assumption) | (with_reducible exact box_made2 _ _ _ _) | (with_reducible exact box_made4 _ _ _ _ _ _) | (refine box_made2' _ _ _ _ (by first | rfl | (simp; done))) | (refine box_made4' _ _ _ _ _ _ (by first | rfl | (simp; done))) | (with_reducible refine Box.alloc ?_ _) | (with_reducible refine Box.drew ?_) | (with_reducible refine Box.set_ne ?_ (by first | omega | (simp; done) | (simp; omega)) _))))) hbd
  have BR4 : Box _ (w.heap.size + 1 + 1) [.bool false, .slice none 0 0, .bool false, .slice none 0 0] := Box.below (show Box _ (w.heap.size + 1 + 1) [.bool false, .slice none 0 0, .bool false, .slice none 0 0] from (by (repeat' (first | (with_reducible assumption) | (with_reducible exact box_made2 _ _ _ _) | (with_reducible exact box_made4 _ _ _ _ _ _) | (refine box_made2' _ _ _ _ (by first | rfl | (simp; done))) | (refine box_made4' _ _ _ _ _ _ (by first | rfl | (simp; done))) | (with_reducible refine Box.alloc ?_ _) | (with_reducible refine Box.drew ?_) | (with_reducible refine Box.set_ne ?_ (by first | omega | (simp; done) | (simp; omega)) _))))) hbd
  have Bg4 : Box _ (wa.heap.size) [.bool nD, .slice a3 l3 c3] := Box.below (show Box _ (wa.heap.size) [.bool nD, .slice a3 l3 c3] from (by (repeat' (first | (with_reducible assumption) | (with_reducible exact box_made2 _ _ _ _) | (with_reducible exact box_made4 _ _ _ _ _ _) | (refine box_made2' _ _ _ _ (by first | rfl | (simp; done))) | (refine box_made4' _ _ _ _ _ _ (by first | rfl | (simp; done))) | (with_reducible refine Box.alloc ?_ _) | (with_reducible refine Box.drew ?_) | (with_reducible refine Box.set_ne ?_ (by first | omega | (simp; done) | (simp; omega)) _))))) hbd
  clear Bc3 Br3 BR3 Bg3
  have hz4 := hbd.size; (try simp only [World.size_alloc, World.size_setCell, World.size_drew, World.heap_drewN] at hz4)
  have eg0 := Bg4.2.1 0 _ rfl
  have eg1 := Bg4.2.1 1 _ rfl
  have egf := Bg4.2.2; have egl := Bg4.1
  go_wp2_with fail
  refine (HV2.out _ _ _ _ ?_).mono ?_
  · refine Ints.below i3 ?_; repeat' (first | (with_reducible exact Below.refl _ _) | (with_reducible assumption) | (with_reducible refine Below.alloc ?_ ?_ _) | (with_reducible refine Below.setCell ?_ ?_ _) | (with_reducible refine Below.drew ?_) | (with_reducible refine below_drewN ?_ _) | (apply bthen2; (with_reducible assumption)) | go_size)
  rintro e we ⟨a6, l6, c6, rfl, o6, hbe⟩
  clear eg0 eg1 egf egl
  have Bc5 : Box _ (w.heap.size) [.int .i64 A, .int .i64 B] := Box.below (show Box _ (w.heap.size) [.int .i64 A, .int .i64 B] from (by (repeat' (first | (with_reducible assumption) | (with_reducible exact box_made2 _ _ _ _) | (with_reducible exact box_made4 _ _ _ _ _ _) | (refine box_made2' _ _ _ _ (by first | rfl | (simp; done))) | (refine box_made4' _ _ _ _ _ _ (by first | rfl | (simp; done))) | (with_reducible refine Box.alloc ?_ _) | (with_reducible refine Box.drew ?_) | (with_reducible refine Box.set_ne ?_ (by first | omega | (simp; done) | (simp; omega)) _))))) hbe
  have Br5 : Box _ (w.heap.size + 1) [.bool nx, .slice a1 l1 c1, .bool nz, .slice a2 l2 c2] := Box.below (show Box _ (w.heap.size + 1) [.bool nx, .slice a1 l1 c1, .bool nz, .slice a2 l2 c2] from (by (repeat' (first | (with_reducible assumption) | (with_reducible exact box_made2 _ _ _ _) | (with_reducible exact box_made4 _ _ _ _ _ _) | (refine box_made2' _ _ _ _ (by first | rfl | (simp; done))) | (refine box_made4' _ _ _ _ _ _ (by first | rfl | (simp; done))) | (with_reducible refine Box.alloc ?_ _) | (with_reducible refine Box.drew ?_) | (with_reducible refine Box.set_ne ?_ (by first | omega | (simp; done) | (simp; omega)) _))))) hbe
  have BR5 : Box _ (w.heap.size + 1 + 1) [.bool false, .slice none 0 0, .bool false, .slice none 0 0] := Box.below (show Box _ (w.heap.size + 1 + 1) [.bool false, .slice none 0 0, .bool false, .slice none 0 0] from (by (repeat' (first | (with_reducible assumption) | (with_reducible exact box_made2 _ _ _ _) | (with_reducible exact box_made4 _ _ _ _ _ _) | (refine box_made2' _ _ _ _ (by first | rfl | (simp; done))) | (refine box_made4' _ _ _ _ _ _ (by first | rfl | (simp; done))) | (with_reducible refine Box.alloc ?_ _) | (with_reducible refine Box.drew ?_) | (with_reducible refine Box.set_ne ?_ (by first | omega | (simp; done) | (simp; omega)) _))))) hbe
  have Bg5 : Box _ (wa.heap.size) [.bool nD, .slice a3 l3 c3] := Box.below (show Box _ (wa.heap.size) [.bool nD, .slice a3 l3 c3] from (by (repeat' (first | (with_reducible assumption) | (with_reducible exact box_made2 _ _ _ _) | (with_reducible exact box_made4 _ _ _ _ _ _) | (refine box_made2' _ _ _ _ (by first | rfl | (simp; done))) | (refine box_made4' _ _ _ _ _ _ (by first | rfl | (simp; done))) | (with_reducible refine Box.alloc ?_ _) | (with_reducible refine Box.drew ?_) | (with_reducible refine Box.set_ne ?_ (by first | omega | (simp; done) | (simp; omega)) _))))) hbe
  have Bn5 : Box _ (wd.heap.size) [.bool nQ, .slice a5 l5 c5] := Box.below (show Box _ (wd.heap.size) [.bool nQ, .slice a5 l5 c5] from (by (repeat' (first | (with_reducible assumption) | (with_reducible exact box_made2 _ _ _ _) | (with_reducible exact box_made4 _ _ _ _ _ _) | (refine box_made2' _ _ _ _ (by first | rfl | (simp; done))) | (refine box_made4' _ _ _ _ _ _ (by first | rfl | (simp; done))) | (with_reducible refine Box.alloc ?_ _) | (with_reducible refine Box.drew ?_) | (with_reducible refine Box.set_ne ?_ (by first | omega | (simp; done) | (simp; omega)) _))))) hbe
  clear Bc4 Br4 BR4 Bg4
  have hz5 := hbe.size; (try simp only [World.size_alloc, World.size_setCell, World.size_drew, World.heap_drewN] at hz5)
  have i5 := o5.ints; have i6 := o6.ints
  go_upto_region 8 with fail
  refine name_world (fun V1 hV1 => ?_)
  have hbV : Below w.heap.size w V1 := by subst hV1; exact (by repeat' (first | (with_reducible exact Below.refl _ _) | (with_reducible assumption) | (with_reducible refine Below.alloc ?_ ?_ _) | (with_reducible refine Below.setCell ?_ ?_ _) | (with_reducible refine Below.drew ?_) | (with_reducible refine below_drewN ?_ _) | (apply bthen2; (with_reducible assumption)) | go_size))
  have hbW : Below we.heap.size we V1 := by subst hV1; exact (by repeat' (first | (with_reducible exact Below.refl _ _) | (with_reducible assumption) | (with_reducible refine Below.alloc ?_ ?_ _) | (with_reducible refine Below.setCell ?_ ?_ _) | (with_reducible refine Below.drew ?_) | (with_reducible refine below_drewN ?_ _) | (apply bthen2; (with_reducible assumption)) | go_size))
  have BRv : Box V1 (w.heap.size + 1 + 1) [.bool false, .slice none 0 0, .bool false, .slice none 0 0] := by subst hV1; exact (by (repeat' (first | (with_reducible assumption) | (with_reducible exact box_made2 _ _ _ _) | (with_reducible exact box_made4 _ _ _ _ _ _) | (refine box_made2' _ _ _ _ (by first | rfl | (simp; done))) | (refine box_made4' _ _ _ _ _ _ (by first | rfl | (simp; done))) | (with_reducible refine Box.alloc ?_ _) | (with_reducible refine Box.drew ?_) | (with_reducible refine Box.set_ne ?_ (by first | omega | (simp; done) | (simp; omega)) _))))
  have Bnv : Box V1 (wd.heap.size) [.bool nQ, .slice a5 l5 c5] := by subst hV1; exact (by (repeat' (first | (with_reducible assumption) | (with_reducible exact box_made2 _ _ _ _) | (with_reducible exact box_made4 _ _ _ _ _ _) | (refine box_made2' _ _ _ _ (by first | rfl | (simp; done))) | (refine box_made4' _ _ _ _ _ _ (by first | rfl | (simp; done))) | (with_reducible refine Box.alloc ?_ _) | (with_reducible refine Box.drew ?_) | (with_reducible refine Box.set_ne ?_ (by first | omega | (simp; done) | (simp; omega)) _))))
  have Bdv : Box V1 (we.heap.size) [.bool true, .slice a6 l6 c6] := by subst hV1; exact (by (repeat' (first | (with_reducible assumption) | (with_reducible exact box_made2 _ _ _ _) | (with_reducible exact box_made4 _ _ _ _ _ _) | (refine box_made2' _ _ _ _ (by first | rfl | (simp; done))) | (refine box_made4' _ _ _ _ _ _ (by first | rfl | (simp; done))) | (with_reducible refine Box.alloc ?_ _) | (with_reducible refine Box.drew ?_) | (with_reducible refine Box.set_ne ?_ (by first | omega | (simp; done) | (simp; omega)) _))))
  have hne2 : wd.heap.size < we.heap.size := by omega
  have hbd1 := BRv.1; have hbd2 := Bnv.1; have hbd3 := Bdv.1
  have j5 : Ints V1 (.slice a5 l5 c5) DQ := by refine Ints.below i5 ?_; subst hV1; repeat' (first | (with_reducible exact Below.refl _ _) | (with_reducible assumption) | (with_reducible refine Below.alloc ?_ ?_ _) | (with_reducible refine Below.setCell ?_ ?_ _) | (with_reducible refine Below.drew ?_) | (with_reducible refine below_drewN ?_ _) | (apply bthen2; (with_reducible assumption)) | go_size)
  have j6 : Ints V1 (.slice a6 l6 c6) DE := by refine Ints.below i6 ?_; subst hV1; repeat' (first | (with_reducible exact Below.refl _ _) | (with_reducible assumption) | (with_reducible refine Below.alloc ?_ ?_ _) | (with_reducible refine Below.setCell ?_ ?_ _) | (with_reducible refine Below.drew ?_) | (with_reducible refine below_drewN ?_ _) | (apply bthen2; (with_reducible assumption)) | go_size)
  clear hV1 hbW
  have x0 := Bnv.2.1 0 _ rfl; have x1 := Bnv.2.1 1 _ rfl; have y0 := Bdv.2.1 0 _ rfl; have y1 := Bdv.2.1 1 _ rfl; have xf := Bnv.2.2; have yf := Bdv.2.2
  have tok1 := True.intro
  have fx0 := Bnv; have fx1 := Bdv
  refine wp_region_x (fun w' => Below V1.heap.size V1 w' ∧ w'.cell? ⟨wd.heap.size, 0, none⟩ = some (.bool nQ) ∧ w'.cell? ⟨wd.heap.size, 1, none⟩ = some (.slice a5 l5 c5) ∧ w'.cell? ⟨we.heap.size, 0, none⟩ = some (.bool true) ∧ w'.cell? ⟨we.heap.size, 1, none⟩ = some (.slice a6 l6 c6)) (fun i => decide (i < 4)) (by kernel_rfl) ?_ (fun hHeld => ?_)
  focus ((try dsimp only); (refine (fun hbK => And.intro hbK (by exact ⟨(hbK.cell (p := ⟨wd.heap.size, 0, none⟩) fx0.1).trans (fx0.2.1 0 _ rfl), (hbK.cell (p := ⟨wd.heap.size, 1, none⟩) fx0.1).trans (fx0.2.1 1 _ rfl), (hbK.cell (p := ⟨we.heap.size, 0, none⟩) fx1.1).trans (fx1.2.1 0 _ rfl), (hbK.cell (p := ⟨we.heap.size, 1, none⟩) fx1.1).trans (fx1.2.1 1 _ rfl)⟩)) ?_; repeat' (first | (with_reducible exact Below.refl _ _) | (with_reducible assumption) | (with_reducible refine Below.alloc ?_ ?_ _) | (with_reducible refine Below.setCell ?_ ?_ _) | (with_reducible refine Below.drew ?_) | (with_reducible refine below_drewN ?_ _) | (apply bthen2; (with_reducible assumption)) | go_size)))
  refine wpAnyX_take (v := ?_) 0 rfl (by kernel_rfl) (by kernel_rfl) (by kernel_rfl) (by kernel_rfl) (by kernel_rfl) (fun _ _ _ h => h) (by rfl) ?_ (by assumption) ?_
  rotate_left
  focus (intro w hSw; (try dsimp only at hSw); go_simp; (try with_reducible rfl))
  (try simp only [Act.put, List.setIfInBounds_toArray, List.set_cons_zero, List.set_cons_succ])
  refine wpAnyX_take (v := ?_) 2 rfl (by kernel_rfl) (by kernel_rfl) (by kernel_rfl) (by kernel_rfl) (by kernel_rfl) (fun _ _ _ h => h) (by rfl) ?_ (by assumption) ?_
  rotate_left
  focus (intro w hSw; (try dsimp only at hSw); go_simp; (try with_reducible rfl))
  (try simp only [Act.put, List.setIfInBounds_toArray, List.set_cons_zero, List.set_cons_succ])
  refine wpAnyX_one 1 rfl (by kernel_rfl) (fun K hK => ?_)
  go_simp
  (go_at_call 113; clear tok1; refine (HM1.out _ _ _ _ ?_).mono ?_; (focus (refine Ints.below j5 ?_; repeat' (first | (with_reducible exact Below.refl _ _) | (with_reducible assumption) | (with_reducible refine Below.alloc ?_ ?_ _) | (with_reducible refine Below.setCell ?_ ?_ _) | (with_reducible refine Below.drew ?_) | (with_reducible refine below_drewN ?_ _) | (apply bthen2; (with_reducible assumption)) | go_size))); rintro e u1 ⟨a7, l7, c7, rfl, o7, hb1⟩; have Bnv := Box.below (show Box _ (wd.heap.size) [.bool nQ, .slice a5 l5 c5] from (by first | exact Box.drew Bnv | (with_reducible assumption))) hb1; have Bdv := Box.below (show Box _ (we.heap.size) [.bool true, .slice a6 l6 c6] from (by first | exact Box.drew Bdv | (with_reducible assumption))) hb1; have BRv := Box.below (show Box _ (w.heap.size + 1 + 1) [.bool false, .slice none 0 0, .bool false, .slice none 0 0] from (by first | exact Box.drew BRv | (with_reducible assumption))) hb1; have x0 := Bnv.2.1 0 _ rfl; have x1 := Bnv.2.1 1 _ rfl; have y0 := Bdv.2.1 0 _ rfl; have y1 := Bdv.2.1 1 _ rfl; have xf := Bnv.2.2; have yf := Bdv.2.2; have xl := Bnv.1; have yl := Bdv.1)
  go_wp2_with fail
  clear hHeld
  refine hK.out _ _ ?_ (fun hHeld => ?_)
  focus ((try dsimp only); (refine (fun hbK => And.intro hbK (by exact ⟨(hbK.cell (p := ⟨wd.heap.size, 0, none⟩) fx0.1).trans (fx0.2.1 0 _ rfl), (hbK.cell (p := ⟨wd.heap.size, 1, none⟩) fx0.1).trans (fx0.2.1 1 _ rfl), (hbK.cell (p := ⟨we.heap.size, 0, none⟩) fx1.1).trans (fx1.2.1 0 _ rfl), (hbK.cell (p := ⟨we.heap.size, 1, none⟩) fx1.1).trans (fx1.2.1 1 _ rfl)⟩)) ?_; repeat' (first | (with_reducible exact Below.refl _ _) | (with_reducible assumption) | (with_reducible refine Below.alloc ?_ ?_ _) | (with_reducible refine Below.setCell ?_ ?_ _) | (with_reducible refine Below.drew ?_) | (with_reducible refine below_drewN ?_ _) | (apply bthen2; (with_reducible assumption)) | go_size)))
  clear hK K
  (try simp only [Act.put, List.setIfInBounds_toArray, List.set_cons_zero, List.set_cons_succ])
  refine wpAnyX_one 3 rfl (by kernel_rfl) (fun K hK => ?_)
  go_simp
  (go_at_call 113; refine (HM2.out _ _ _ _ ?_).mono ?_; (focus (refine Ints.below j6 ?_; repeat' (first | (with_reducible exact Below.refl _ _) | (with_reducible assumption) | (with_reducible refine Below.alloc ?_ ?_ _) | (with_reducible refine Below.setCell ?_ ?_ _) | (with_reducible refine Below.drew ?_) | (with_reducible refine below_drewN ?_ _) | (apply bthen2; (with_reducible assumption)) | go_size))); rintro e u2 ⟨a8, l8, c8, rfl, o8, hb2⟩; have Bnv := Box.below (show Box _ (wd.heap.size) [.bool nQ, .slice a5 l5 c5] from (by first | exact Box.drew Bnv | (with_reducible assumption))) hb2; have Bdv := Box.below (show Box _ (we.heap.size) [.bool true, .slice a6 l6 c6] from (by first | exact Box.drew Bdv | (with_reducible assumption))) hb2; have BRv := Box.below (show Box _ (w.heap.size + 1 + 1) [.bool false, .slice none 0 0, .bool false, .slice none 0 0] from (by first | exact Box.drew BRv | (with_reducible assumption))) hb2; have x0 := Bnv.2.1 0 _ rfl; have x1 := Bnv.2.1 1 _ rfl; have y0 := Bdv.2.1 0 _ rfl; have y1 := Bdv.2.1 1 _ rfl; have xf := Bnv.2.2; have yf := Bdv.2.2; have xl := Bnv.1; have yl := Bdv.1)
  go_wp2_with fail
  clear hHeld
  refine hK.out _ _ ?_ (fun hHeld => ?_)
  focus ((try dsimp only); (refine (fun hbK => And.intro hbK (by exact ⟨(hbK.cell (p := ⟨wd.heap.size, 0, none⟩) fx0.1).trans (fx0.2.1 0 _ rfl), (hbK.cell (p := ⟨wd.heap.size, 1, none⟩) fx0.1).trans (fx0.2.1 1 _ rfl), (hbK.cell (p := ⟨we.heap.size, 0, none⟩) fx1.1).trans (fx1.2.1 0 _ rfl), (hbK.cell (p := ⟨we.heap.size, 1, none⟩) fx1.1).trans (fx1.2.1 1 _ rfl)⟩)) ?_; repeat' (first | (with_reducible exact Below.refl _ _) | (with_reducible assumption) | (with_reducible refine Below.alloc ?_ ?_ _) | (with_reducible refine Below.setCell ?_ ?_ _) | (with_reducible refine Below.drew ?_) | (with_reducible refine below_drewN ?_ _) | (apply bthen2; (with_reducible assumption)) | go_size)))
  clear hK K
  (try simp only [Act.put, List.setIfInBounds_toArray, List.set_cons_zero, List.set_cons_succ])
  refine wpAnyX_last 4 rfl (by kernel_rfl) rfl (fun K hK => ?_)
  go_simp
  refine hK.out _ _ ?_
  clear hK K
  (try simp only [Act.put, List.setIfInBounds_toArray, List.set_cons_zero, List.set_cons_succ])
  refine wpAnyX_last 5 rfl (by kernel_rfl) rfl (fun K hK => ?_)
  go_simp
  refine hK.out _ _ ?_
  clear hK K
  (try simp only [Act.put, List.setIfInBounds_toArray, List.set_cons_zero, List.set_cons_succ])
  refine wpAnyX_done (by kernel_rfl) ?_ _
  refine NoPanic.normal ?_
  all_goals
    have q1 := hb1.size; have q2 := hb2.size; (try simp only [World.size_drew] at q1)
    have TW0 := Twin.of o7 (by first | exact q1 | exact hb1.size) o8 hb2
    have TW := Twin.set (Twin.set (Twin.set (Twin.set TW0 (p := ⟨wd.heap.size, 0, none⟩) hbd2 (.bool nX)) (p := ⟨wd.heap.size, 1, none⟩) hbd2 (.slice a7 l7 c7)) (p := ⟨we.heap.size, 0, none⟩) hbd3 (.bool nZ)) (p := ⟨we.heap.size, 1, none⟩) hbd3 (.slice a8 l8 c8)
    have Bn2 := (Bnv.sto nX (.slice a7 l7 c7)).sto_ne (T := we.heap.size) (by omega) nZ (.slice a8 l8 c8)
    have Bd2 := (Bdv.sto_ne (T := wd.heap.size) (by omega) nX (.slice a7 l7 c7)).sto nZ (.slice a8 l8 c8)
    have BR2 := (BRv.sto_ne (T := wd.heap.size) (by omega) nX (.slice a7 l7 c7)).sto_ne (T := we.heap.size) (by omega) nZ (.slice a8 l8 c8)
    have hbX : Below w.heap.size w (sto (sto u2 wd.heap.size nX (.slice a7 l7 c7)) we.heap.size nZ (.slice a8 l8 c8)) := below_sto (below_sto (by repeat' (first | (with_reducible exact Below.refl _ _) | (with_reducible assumption) | (with_reducible refine Below.alloc ?_ ?_ _) | (with_reducible refine Below.setCell ?_ ?_ _) | (with_reducible refine Below.drew ?_) | (with_reducible refine below_drewN ?_ _) | (apply bthen2; (with_reducible assumption)) | go_size)) (by omega) _ _) (by omega) _ _
    have hsz : V1.heap.size ≤ (sto (sto u2 wd.heap.size nX (.slice a7 l7 c7)) we.heap.size nZ (.slice a8 l8 c8)).heap.size := by rw [sto_size, sto_size]; omega
    change Twin (sto (sto u2 wd.heap.size nX (.slice a7 l7 c7)) we.heap.size nZ (.slice a8 l8 c8)) _ _ _ _ _ at TW
    obtain ⟨V2, hV2⟩ : ∃ V, V = sto (sto u2 wd.heap.size nX (.slice a7 l7 c7)) we.heap.size nZ (.slice a8 l8 c8) := ⟨_, rfl⟩
    rw [← hV2] at TW Bn2 Bd2 BR2 hbX hsz
    unfold sto at hV2
    rw [← hV2]
    clear hV2 x0 x1 y0 y1 xf yf xl yl Bnv Bdv BRv TW0
    obtain ⟨i7, i8⟩ := TW.ints
    have en0 := Bn2.2.1 0 _ rfl
    have en1 := Bn2.2.1 1 _ rfl
    have enf := Bn2.2.2; have enl := Bn2.1
    have ed0 := Bd2.2.1 0 _ rfl
    have ed1 := Bd2.2.1 1 _ rfl
    have edf := Bd2.2.2; have edl := Bd2.1
    go_wp2_with fail
    refine (HR.out _ _ _ _ _ _ _ ?_ ?_).mono ?_
    · refine Ints.below i7 ?_; repeat' (first | (with_reducible exact Below.refl _ _) | (with_reducible assumption) | (with_reducible refine Below.alloc ?_ ?_ _) | (with_reducible refine Below.setCell ?_ ?_ _) | (with_reducible refine Below.drew ?_) | (with_reducible refine below_drewN ?_ _) | (apply bthen2; (with_reducible assumption)) | go_size)
    · refine Ints.below i8 ?_; repeat' (first | (with_reducible exact Below.refl _ _) | (with_reducible assumption) | (with_reducible refine Below.alloc ?_ ?_ _) | (with_reducible refine Below.setCell ?_ ?_ _) | (with_reducible refine Below.drew ?_) | (with_reducible refine below_drewN ?_ _) | (apply bthen2; (with_reducible assumption)) | go_size)
    rintro e wf ⟨rfl, hbf⟩
    clear en0 en1 enf enl ed0 ed1 edf edl
    have Bn6 : Box _ (wd.heap.size) [.bool nX, .slice a7 l7 c7] := Box.below (show Box _ (wd.heap.size) [.bool nX, .slice a7 l7 c7] from (by (repeat' (first | (with_reducible assumption) | (with_reducible exact box_made2 _ _ _ _) | (with_reducible exact box_made4 _ _ _ _ _ _) | (refine box_made2' _ _ _ _ (by first | rfl | (simp; done))) | (refine box_made4' _ _ _ _ _ _ (by first | rfl | (simp; done))) | (with_reducible refine Box.alloc ?_ _) | (with_reducible refine Box.drew ?_) | (with_reducible refine Box.set_ne ?_ (by first | omega | (simp; done) | (simp; omega)) _))))) hbf
    have Bd6 : Box _ (we.heap.size) [.bool nZ, .slice a8 l8 c8] := Box.below (show Box _ (we.heap.size) [.bool nZ, .slice a8 l8 c8] from (by (repeat' (first | (with_reducible assumption) | (with_reducible exact box_made2 _ _ _ _) | (with_reducible exact box_made4 _ _ _ _ _ _) | (refine box_made2' _ _ _ _ (by first | rfl | (simp; done))) | (refine box_made4' _ _ _ _ _ _ (by first | rfl | (simp; done))) | (with_reducible refine Box.alloc ?_ _) | (with_reducible refine Box.drew ?_) | (with_reducible refine Box.set_ne ?_ (by first | omega | (simp; done) | (simp; omega)) _))))) hbf
    have BR6 : Box _ (w.heap.size + 1 + 1) [.bool false, .slice none 0 0, .bool false, .slice none 0 0] := Box.below (show Box _ (w.heap.size + 1 + 1) [.bool false, .slice none 0 0, .bool false, .slice none 0 0] from (by (repeat' (first | (with_reducible assumption) | (with_reducible exact box_made2 _ _ _ _) | (with_reducible exact box_made4 _ _ _ _ _ _) | (refine box_made2' _ _ _ _ (by first | rfl | (simp; done))) | (refine box_made4' _ _ _ _ _ _ (by first | rfl | (simp; done))) | (with_reducible refine Box.alloc ?_ _) | (with_reducible refine Box.drew ?_) | (with_reducible refine Box.set_ne ?_ (by first | omega | (simp; done) | (simp; omega)) _))))) hbf
    have Bo6 : Box _ (V2.heap.size) [.bool nX, .slice a7 l7 c7, .bool nZ, .slice a8 l8 c8] := Box.below (show Box _ (V2.heap.size) [.bool nX, .slice a7 l7 c7, .bool nZ, .slice a8 l8 c8] from (by (repeat' (first | (with_reducible assumption) | (with_reducible exact box_made2 _ _ _ _) | (with_reducible exact box_made4 _ _ _ _ _ _) | (refine box_made2' _ _ _ _ (by first | rfl | (simp; done))) | (refine box_made4' _ _ _ _ _ _ (by first | rfl | (simp; done))) | (with_reducible refine Box.alloc ?_ _) | (with_reducible refine Box.drew ?_) | (with_reducible refine Box.set_ne ?_ (by first | omega | (simp; done) | (simp; omega)) _))))) hbf
    clear Bn2 Bd2 BR2
    have hz6 := hbf.size; (try simp only [World.size_alloc, World.size_setCell, World.size_drew, World.heap_drewN] at hz6)
    have TW2 : Twin wf V1.heap.size (.slice a7 l7 c7) DX (.slice a8 l8 c8) DZ := (Twin.alloc TW _).below hbf
    have eR0 := BR6.2.1 0 _ rfl
    have eR1 := BR6.2.1 1 _ rfl
    have eR2 := BR6.2.1 2 _ rfl
    have eR3 := BR6.2.1 3 _ rfl
    have eRf := BR6.2.2; have eRl := BR6.1
    have eo0 := Bo6.2.1 0 _ rfl
    have eo1 := Bo6.2.1 1 _ rfl
    have eo2 := Bo6.2.1 2 _ rfl
    have eo3 := Bo6.2.1 3 _ rfl
    have eof := Bo6.2.2; have eol := Bo6.1
    cases ok
    · obtain ⟨rfl, rfl, rfl, rfl⟩ := HF.out.2 rfl
      go_wp2_with fail
      refine bodyPost_ret (v := .tuple #[.agg #[.bool false, .slice none 0 0, .bool false, .slice none 0 0], .bool false]) (by simp [results, Try.results82, go_sem, eR0, eR1, eR2, eR3, eRf, eRl]) rfl ⟨_, _, _, _, _, _, rfl, Twin.nil _ _, (by repeat' (first | (with_reducible exact Below.refl _ _) | (with_reducible assumption) | (with_reducible refine Below.alloc ?_ ?_ _) | (with_reducible refine Below.setCell ?_ ?_ _) | (with_reducible refine Below.drew ?_) | (with_reducible refine below_drewN ?_ _) | (apply bthen2; (with_reducible assumption)) | go_size))⟩
    · obtain ⟨rfl, rfl, rfl, rfl⟩ := HF.out.1 rfl
      go_wp2_with fail
      refine bodyPost_ret (v := .tuple #[.agg #[.bool nX, .slice a7 l7 c7, .bool nZ, .slice a8 l8 c8], .bool true]) (by simp [results, Try.results82, go_sem, eR0, eR1, eR2, eR3, eRf, eRl, eo0, eo1, eo2, eo3]) rfl ⟨_, _, _, _, _, _, rfl, ?_, (by repeat' (first | (with_reducible exact Below.refl _ _) | (with_reducible assumption) | (with_reducible refine Below.alloc ?_ ?_ _) | (with_reducible refine Below.setCell ?_ ?_ _) | (with_reducible refine Below.drew ?_) | (with_reducible refine below_drewN ?_ _) | (apply bthen2; (with_reducible assumption)) | go_size))⟩
      refine Twin.mono (B := V1.heap.size) ?_ (by omega)
      exact Twin.set (Twin.set (Twin.set (Twin.set TW2 (by show w.heap.size + 1 + 1 < V1.heap.size; omega) _) (by show w.heap.size + 1 + 1 < V1.heap.size; omega) _) (by show w.heap.size + 1 + 1 < V1.heap.size; omega) _) (by show w.heap.size + 1 + 1 < V1.heap.size; omega) _
theorem doubleX_any (A B x z : Int) (hC : isC A B = true) (a1 a2 : Option Addr) (l1 c1 l2 c2 : Nat) (w : World) (hx : Ints w (.slice a1 l1 c1) (dg x.natAbs)) (hz : Ints w (.slice a2 l2 c2) (dg z.natAbs)) (lx : (dg x.natAbs).length ≤ 80) (lz : (dg z.natAbs).length ≤ 80) : Calls Try.prog 82 #[.agg #[.int .i64 A, .int .i64 B], .agg #[.bool (decide (x < 0)), .slice a1 l1 c1, .bool (decide (z < 0)), .slice a2 l2 c2]] w (GivesRT (dxR A B x z).1 (dxR A B x z).2.1 (dxR A B x z).2.2.1 (dxR A B x z).2.2.2.1 (dxR A B x z).2.2.2.2 w) := by
  by_cases h0 : denP A B x z = 0
  · exact doubleX_zero A B x z hC a1 a2 l1 c1 l2 c2 w hx hz lx lz h0
  by_cases h1 : denP A B x z < 0
  · exact doubleX_neg A B x z hC a1 a2 l1 c1 l2 c2 w hx hz lx lz h0 h1
  · exact doubleX_pos A B x z hC a1 a2 l1 c1 l2 c2 w hx hz lx lz h0 h1

end Go.Proofs.Ytopdeoicglkbkaa
