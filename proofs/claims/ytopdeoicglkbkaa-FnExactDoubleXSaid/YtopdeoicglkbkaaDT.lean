import Derived.Test.YtopdeoicglkbkaaNB2
import Derived.Test.YtopdeoicglkbkaaDivZ
set_option linter.unusedSimpArgs false
set_option linter.unusedVariables false
namespace Go.Proofs.Ytopdeoicglkbkaa
open Go.RowKit
/-! ### the divisor that is taken -/

def dN (A B : Int) : Int := 4 * ((dsc A B).natAbs : Int)
def gcI (z n : Int) : Int := (Int.gcd z n : Int)
theorem dsc_rng {A B : Int} (h : isC A B = true) : dsc A B ≠ 0 ∧ (dsc A B).natAbs ≤ 10000000000 := by
  obtain ⟨hA, hB⟩ := isC_rng h
  have h2 := mul_rng (X := 1000) (Y := 1000) (by omega) (by omega) hA hA
  have h3 := mul_rng (X := 1000000) (Y := 1000) (by omega) (by omega) (show -1000000 ≤ A * A ∧ A * A ≤ 1000000 by omega) hA
  have h4 := mul_rng (X := 10000) (Y := 10000) (by omega) (by omega) hB hB
  have e : dsc A B = 4 * (A * A * A) + 27 * (B * B) := by
    have : 4*A*A*A+27*B*B = 4 * (A * A * A) + 27 * (B * B) := by grind
    unfold dsc; rw [this]; exact win (by omega)
  refine ⟨?_, by rw [e]; omega⟩
  unfold isC at h
  simp only [Bool.and_eq_true, bne_iff_ne, ne_eq] at h
  exact h.2
theorem dN_rng {A B : Int} (h : isC A B = true) : 0 < dN A B ∧ dN A B ≤ 40000000000 := by
  obtain ⟨h1, h2⟩ := dsc_rng h
  unfold dN; omega
theorem gcI_pos (z : Int) {n : Int} (hn : 0 < n) : 0 < gcI z n ∧ gcI z n ≤ n := by
  unfold gcI
  have h1 := Int.gcd_pos_of_ne_zero_right z (show n ≠ 0 by omega)
  have h2 := Int.le_of_dvd hn (Int.gcd_dvd_right (a := z) (b := n))
  omega
theorem gcd_emod_l (z n : Int) : Int.gcd (z % n) n = Int.gcd z n := by rw [Int.emod_def]; simp
theorem gcI_mod (z n : Int) : (Int.gcd (z % n) n : Int) = gcI z n := by unfold gcI; rw [gcd_emod_l]
noncomputable def dtP (A B x z : Int) : Int := gcI (denP A B x z) (gcI (numP A B x z) (dN A B))
noncomputable def dtV (A B : Int) (n1 : Bool) (xs : List Int) (n2 : Bool) (ys : List Int) : Int × Bool :=
  if (isC A B && ratB n1 xs n2 ys) = true then (dtP A B (zv n1 xs) (zv n2 ys), true) else (0, false)

theorem divisorWith_any (z : Int) (a : Option Addr) (l c : Nat) (n : Int) (w : World) (hx : Ints w (.slice a l c) (dg z.natAbs)) (hl : (dg z.natAbs).length ≤ 1000000) (hn : 0 < n) (hn2 : n ≤ 1000000000000) : Calls Try.prog 110 #[.agg #[.bool (decide (z < 0)), .slice a l c], .int .i64 n] w (Gives (.int .i64 (gcI z n)) w) := by
  have HA := Lib.hid (fun W h => absolute_any (decide (z < 0)) a l c (dg z.natAbs) W h (by omega))
  rw [trim_can (can_dg _)] at HA
  have HD := Lib.hid (fun a l c W h => divWhole_any a l c (dg z.natAbs) n W h (inR_dg _) hl hn hn2)
  rw [val_dg] at HD
  have hb : 0 ≤ (z.natAbs : Int) % n ∧ (z.natAbs : Int) % n < n := ⟨Int.emod_nonneg _ (by omega), Int.emod_lt_of_pos _ hn⟩
  have HG := Lib.hid (fun W => (gcd_any ((z.natAbs : Int) % n) n (by omega) (by omega) (by omega) (by omega) W).mono fun _ _ h => gives_of_quiet h)
  rw [gcI_mod, show gcI (z.natAbs : Int) n = gcI z n by simp [gcI, Int.gcd]] at HG
  have HX := Lib.hid hx
  clear hx hl hb hn hn2
  generalize gcI z n = G at *
  generalize (z.natAbs : Int) % n = R at *
  generalize dg ((z.natAbs : Int).toNat / n.toNat) = DQ at *
  generalize dg z.natAbs = D at *
  generalize decide (z < 0) = nz at *
  go_enter Try.func110, Try.ntmps110
  go_wp2_with fail
  refine (HA.out _ ?_).mono ?_
  · refine Ints.below HX.out ?_; repeat' (first | (with_reducible exact Below.refl _ _) | (with_reducible assumption) | (with_reducible refine Below.alloc ?_ ?_ _) | (with_reducible refine Below.setCell ?_ ?_ _) | (with_reducible refine Below.drew ?_) | (with_reducible refine below_drewN ?_ _) | (apply bthen2; (with_reducible assumption)) | go_size)
  rintro e wa ⟨a1, l1, c1, rfl, ho1, hba⟩
  have hza := hba.size; (try simp only [World.size_alloc, World.size_setCell, World.size_drew, World.heap_drewN] at hza); try (refine keepc hba (w.heap.size) ?_ ?_; (focus (first | omega | (simp <;> omega))); intro hca_0 hfa_0 hla_0); try (refine keepc hba (w.heap.size + 1) ?_ ?_; (focus (first | omega | (simp <;> omega))); intro hca_1 hfa_1 hla_1); try (refine keepc hba (w.heap.size + 1 + 1) ?_ ?_; (focus (first | omega | (simp <;> omega))); intro hca_2 hfa_2 hla_2)
  go_wp2_with fail
  refine (HD.out _ _ _ _ ?_).mono ?_
  · refine Ints.below ho1.ints ?_; repeat' (first | (with_reducible exact Below.refl _ _) | (with_reducible assumption) | (with_reducible refine Below.alloc ?_ ?_ _) | (with_reducible refine Below.setCell ?_ ?_ _) | (with_reducible refine Below.drew ?_) | (with_reducible refine below_drewN ?_ _) | (apply bthen2; (with_reducible assumption)) | go_size)
  rintro e wb ⟨a2, l2, c2, rfl, ho2, hbb⟩
  have hzb := hbb.size; (try simp only [World.size_alloc, World.size_setCell, World.size_drew, World.heap_drewN] at hzb); try (refine keepc hbb (w.heap.size) ?_ ?_; (focus (first | omega | (simp <;> omega))); intro hcb_0 hfb_0 hlb_0); try (refine keepc hbb (w.heap.size + 1) ?_ ?_; (focus (first | omega | (simp <;> omega))); intro hcb_1 hfb_1 hlb_1); try (refine keepc hbb (w.heap.size + 1 + 1) ?_ ?_; (focus (first | omega | (simp <;> omega))); intro hcb_2 hfb_2 hlb_2)
  go_wp2_with fail
  refine (HG.out _).mono ?_
  rintro e wc ⟨rfl, hbc⟩; have hzc := hbc.size; (try simp only [World.size_alloc, World.size_setCell, World.size_drew, World.heap_drewN] at hzc); try (refine keepc hbc (w.heap.size) ?_ ?_; (focus (first | omega | (simp <;> omega))); intro hcc_0 hfc_0 hlc_0); try (refine keepc hbc (w.heap.size + 1) ?_ ?_; (focus (first | omega | (simp <;> omega))); intro hcc_1 hfc_1 hlc_1); try (refine keepc hbc (w.heap.size + 1 + 1) ?_ ?_; (focus (first | omega | (simp <;> omega))); intro hcc_2 hfc_2 hlc_2)
  go_wp2
  go_ret; exact gives rfl (by repeat' (first | (with_reducible exact Below.refl _ _) | (with_reducible assumption) | (with_reducible refine Below.alloc ?_ ?_ _) | (with_reducible refine Below.setCell ?_ ?_ _) | (with_reducible refine Below.drew ?_) | (with_reducible refine below_drewN ?_ _) | (apply bthen2; (with_reducible assumption)) | go_size))

theorem numP_len {A B x z : Int} (hC : isC A B = true) (lx : (dg x.natAbs).length ≤ 80) (lz : (dg z.natAbs).length ≤ 80) : (dg (numP A B x z).natAbs).length ≤ 1000000 := by
  obtain ⟨hA, hB⟩ := isC_rng hC
  have q1 := dg_len A.natAbs (by omega)
  have q2 := dg_len B.natAbs (by omega)
  have q3 := dg_len (8 : Int).natAbs (by decide)
  have q4 := dg_len (2 : Int).natAbs (by decide)
  have e : numP A B x z = ((((x * x) * (x * x)) - (((2 : Int) * A) * ((x * x) * (z * z)))) - ((((8 : Int) * B) * x) * ((z * z) * z))) + ((A * A) * ((z * z) * (z * z))) := by unfold numP; grind
  have a1 := dg_len_mul x x; have a2 := dg_len_mul z z; have a3 := dg_len_mul (x * x) (x * x); have a4 := dg_len_mul (2 : Int) A; have a5 := dg_len_mul (x * x) (z * z); have a6 := dg_len_mul ((2 : Int) * A) ((x * x) * (z * z))
  have a7 := dg_len_mul (8 : Int) B; have a8 := dg_len_mul ((8 : Int) * B) x; have a9 := dg_len_mul (z * z) z; have a10 := dg_len_mul (((8 : Int) * B) * x) ((z * z) * z); have a11 := dg_len_mul A A; have a12 := dg_len_mul (z * z) (z * z); have a13 := dg_len_mul (A * A) ((z * z) * (z * z))
  have s1 := dg_len_sub ((x * x) * (x * x)) (((2 : Int) * A) * ((x * x) * (z * z))) (n := 2000) (by omega) (by omega)
  have s2 := dg_len_sub (((x * x) * (x * x)) - (((2 : Int) * A) * ((x * x) * (z * z)))) ((((8 : Int) * B) * x) * ((z * z) * z)) (n := 2001) (by omega) (by omega)
  have s3 := dg_len_add ((((x * x) * (x * x)) - (((2 : Int) * A) * ((x * x) * (z * z)))) - ((((8 : Int) * B) * x) * ((z * z) * z))) ((A * A) * ((z * z) * (z * z))) (n := 2002) (by omega) (by omega)
  rw [e]; omega
theorem denP_len {A B x z : Int} (hC : isC A B = true) (lx : (dg x.natAbs).length ≤ 80) (lz : (dg z.natAbs).length ≤ 80) : (dg (denP A B x z).natAbs).length ≤ 1000000 := by
  obtain ⟨hA, hB⟩ := isC_rng hC
  have q1 := dg_len A.natAbs (by omega)
  have q2 := dg_len B.natAbs (by omega)
  have q3 := dg_len (4 : Int).natAbs (by decide)
  have e : denP A B x z = ((4 : Int) * z) * ((((x * x) * x) + ((A * x) * (z * z))) + (B * ((z * z) * z))) := by unfold denP; grind
  have a1 := dg_len_mul x x; have a2 := dg_len_mul z z; have a3 := dg_len_mul (x * x) x; have a4 := dg_len_mul A x; have a5 := dg_len_mul (A * x) (z * z); have a6 := dg_len_mul (z * z) z; have a7 := dg_len_mul B ((z * z) * z); have a8 := dg_len_mul (4 : Int) z
  have s1 := dg_len_add ((x * x) * x) ((A * x) * (z * z)) (n := 2000) (by omega) (by omega)
  have s2 := dg_len_add (((x * x) * x) + ((A * x) * (z * z))) (B * ((z * z) * z)) (n := 2001) (by omega) (by omega)
  have s3 := dg_len_mul ((4 : Int) * z) ((((x * x) * x) + ((A * x) * (z * z))) + (B * ((z * z) * z)))
  rw [e]; omega
set_option maxRecDepth 100000 in
set_option maxHeartbeats 2000000 in
theorem divisorTaken_any (A B x z : Int) (hC : isC A B = true) (a1 a2 : Option Addr) (l1 c1 l2 c2 : Nat) (w : World) (hx : Ints w (.slice a1 l1 c1) (dg x.natAbs)) (hz : Ints w (.slice a2 l2 c2) (dg z.natAbs)) (lx : (dg x.natAbs).length ≤ 80) (lz : (dg z.natAbs).length ≤ 80) : Calls Try.prog 80 #[.agg #[.int .i64 A, .int .i64 B], .agg #[.bool (decide (x < 0)), .slice a1 l1 c1, .bool (decide (z < 0)), .slice a2 l2 c2]] w (Gives (.int .i64 (dtP A B x z)) w) := by
  obtain ⟨hA, hB⟩ := isC_rng hC
  obtain ⟨d1, d2⟩ := dsc_rng hC
  obtain ⟨n1, n2⟩ := dN_rng hC
  have g1 := gcI_pos (numP A B x z) n1
  have HC := Lib.hid (fun W => core_any A B W)
  have HN := Lib.hid (fun W h h' => numeratorOf_any A B x z hA hB a1 a2 l1 c1 l2 c2 W h h' lx lz)
  have HD := Lib.hid (fun W h h' => denominatorOf_any A B x z hA hB a1 a2 l1 c1 l2 c2 W h h' lx lz)
  have HW1 := Lib.hid (fun a l c W h => divisorWith_any (numP A B x z) a l c (dN A B) W h (numP_len hC lx lz) n1 (by omega))
  have HW2 := Lib.hid (fun a l c W h => divisorWith_any (denP A B x z) a l c (gcI (numP A B x z) (dN A B)) W h (denP_len hC lx lz) g1.1 (by omega))
  have hw1 : wrap64 (4 * dsc A B) = 4 * dsc A B := win (by omega)
  have hw2 : wrap64 (-4 * dsc A B) = -4 * dsc A B := win (by omega)
  have hmx : max (4 * dsc A B) (-4 * dsc A B) = dN A B := by unfold dN; omega
  have HX := Lib.hid hx; have HZ := Lib.hid hz
  unfold dtP
  unfold GivesZ at HN HD
  clear hx hz lx lz hC hA hB d1 d2 n1 n2 g1
  generalize gcI (denP A B x z) (gcI (numP A B x z) (dN A B)) = G2 at *
  generalize gcI (numP A B x z) (dN A B) = G1 at *
  generalize dN A B = N at *
  generalize dsc A B = d at *
  generalize dg (numP A B x z).natAbs = DN at *
  generalize decide (numP A B x z < 0) = nN at *
  generalize dg (denP A B x z).natAbs = DD at *
  generalize decide (denP A B x z < 0) = nD at *
  generalize dg x.natAbs = Dx at *
  generalize dg z.natAbs = Dz at *
  generalize decide (x < 0) = nx at *
  generalize decide (z < 0) = nz at *
  go_enter Try.func80, Try.ntmps80
  go_upto_region 1 with fail
  go_cut [5] (fun s5 wx => s5 = .int .i64 N ∧ Box wx w.heap.size [.int .i64 A, .int .i64 B] ∧ Box wx (w.heap.size + 1) [.bool nx, .slice a1 l1 c1, .bool nz, .slice a2 l2 c2] ∧ Below w.heap.size w wx)
  case first =>
    refine name_world (fun W1 hW1 => ?_)
    have Bc : Box W1 w.heap.size [.int .i64 A, .int .i64 B] := by subst hW1; exact box_two (by first | (simp; done) | (simp; omega)) (by simp [go_sem]) (by simp [go_sem]) (fun o => by simp [go_sem])
    have Br : Box W1 (w.heap.size + 1) [.bool nx, .slice a1 l1 c1, .bool nz, .slice a2 l2 c2] := by subst hW1; exact box_four (by first | (simp; done) | (simp; omega)) (by simp [go_sem]) (by simp [go_sem]) (by simp [go_sem]) (by simp [go_sem]) (fun o => by simp [go_sem])
    have hB : Below w.heap.size w W1 := by subst hW1; exact (by repeat' (first | (with_reducible exact Below.refl _ _) | (with_reducible assumption) | (with_reducible refine Below.alloc ?_ ?_ _) | (with_reducible refine Below.setCell ?_ ?_ _) | (with_reducible refine Below.drew ?_) | (with_reducible refine below_drewN ?_ _) | (apply bthen2; (with_reducible assumption)) | go_size))
    clear hW1
    go_region_held3 (fun w' => Below W1.heap.size W1 w' ∧ w'.cell? ⟨w.heap.size, 0, none⟩ = some (.int .i64 A) ∧ w'.cell? ⟨w.heap.size, 1, none⟩ = some (.int .i64 B)) ((refine (fun hbK => And.intro hbK (by exact ⟨(hbK.cell (p := ⟨w.heap.size, 0, none⟩) Bc.1).trans (Bc.2.1 0 _ rfl), (hbK.cell (p := ⟨w.heap.size, 1, none⟩) Bc.1).trans (Bc.2.1 1 _ rfl)⟩)) ?_; repeat' (first | (with_reducible exact Below.refl _ _) | (with_reducible assumption) | (with_reducible refine Below.alloc ?_ ?_ _) | (with_reducible refine Below.setCell ?_ ?_ _) | (with_reducible refine Below.drew ?_) | (with_reducible refine below_drewN ?_ _) | (apply bthen2; (with_reducible assumption)) | go_size))) ((first | (go_at_call 101; refine (HC.out _).mono ?_; rintro e wf ⟨rfl, hbf⟩)))
    all_goals
      go_wp2_with fail
      go_meet
      have hb2 : Below W1.heap.size W1 wf := (by repeat' (first | (with_reducible exact Below.refl _ _) | (with_reducible assumption) | (with_reducible refine Below.alloc ?_ ?_ _) | (with_reducible refine Below.setCell ?_ ?_ _) | (with_reducible refine Below.drew ?_) | (with_reducible refine below_drewN ?_ _) | (apply bthen2; (with_reducible assumption)) | go_size))
      exact ⟨by first | (rw [← hmx]; rfl) | (simp [IntWalk.i64_left, hw1, hw2, ← hmx]), Bc.below hb2, Br.below hb2, hB.trans (hb2.mono hB.size)⟩
  case rest =>
  obtain ⟨rfl, Bc, Br, hB⟩ := hcut
  obtain ⟨W1, hW⟩ : ∃ x, x = wc := ⟨_, rfl⟩
  subst hW
  go_upto_region 2 with fail
  have IX := HX.out.below hB
  have IZ := HZ.out.below hB
  go_region_held3 (fun w' => Below W1.heap.size W1 w' ∧ w'.cell? ⟨w.heap.size, 0, none⟩ = some (.int .i64 A) ∧ w'.cell? ⟨w.heap.size, 1, none⟩ = some (.int .i64 B) ∧ w'.cell? ⟨w.heap.size + 1, 0, none⟩ = some (.bool nx) ∧ w'.cell? ⟨w.heap.size + 1, 1, none⟩ = some (.slice a1 l1 c1) ∧ w'.cell? ⟨w.heap.size + 1, 2, none⟩ = some (.bool nz) ∧ w'.cell? ⟨w.heap.size + 1, 3, none⟩ = some (.slice a2 l2 c2)) ((refine (fun hbK => And.intro hbK (by exact ⟨(hbK.cell (p := ⟨w.heap.size, 0, none⟩) Bc.1).trans (Bc.2.1 0 _ rfl), (hbK.cell (p := ⟨w.heap.size, 1, none⟩) Bc.1).trans (Bc.2.1 1 _ rfl), (hbK.cell (p := ⟨w.heap.size + 1, 0, none⟩) Br.1).trans (Br.2.1 0 _ rfl), (hbK.cell (p := ⟨w.heap.size + 1, 1, none⟩) Br.1).trans (Br.2.1 1 _ rfl), (hbK.cell (p := ⟨w.heap.size + 1, 2, none⟩) Br.1).trans (Br.2.1 2 _ rfl), (hbK.cell (p := ⟨w.heap.size + 1, 3, none⟩) Br.1).trans (Br.2.1 3 _ rfl)⟩)) ?_; repeat' (first | (with_reducible exact Below.refl _ _) | (with_reducible assumption) | (with_reducible refine Below.alloc ?_ ?_ _) | (with_reducible refine Below.setCell ?_ ?_ _) | (with_reducible refine Below.drew ?_) | (with_reducible refine below_drewN ?_ _) | (apply bthen2; (with_reducible assumption)) | go_size))) ((first | (go_at_call 72; refine (HD.out _ ?_ ?_).mono ?_; (focus (refine Ints.below IX ?_; repeat' (first | (with_reducible exact Below.refl _ _) | (with_reducible assumption) | (with_reducible refine Below.alloc ?_ ?_ _) | (with_reducible refine Below.setCell ?_ ?_ _) | (with_reducible refine Below.drew ?_) | (with_reducible refine below_drewN ?_ _) | (apply bthen2; (with_reducible assumption)) | go_size))); (focus (refine Ints.below IZ ?_; repeat' (first | (with_reducible exact Below.refl _ _) | (with_reducible assumption) | (with_reducible refine Below.alloc ?_ ?_ _) | (with_reducible refine Below.setCell ?_ ?_ _) | (with_reducible refine Below.drew ?_) | (with_reducible refine below_drewN ?_ _) | (apply bthen2; (with_reducible assumption)) | go_size))); rintro e u1 ⟨a4, l4, c4, rfl, o4, hb1⟩; have i4 := o4.ints) | (go_at_call 78; refine (HN.out _ ?_ ?_).mono ?_; (focus (refine Ints.below IX ?_; repeat' (first | (with_reducible exact Below.refl _ _) | (with_reducible assumption) | (with_reducible refine Below.alloc ?_ ?_ _) | (with_reducible refine Below.setCell ?_ ?_ _) | (with_reducible refine Below.drew ?_) | (with_reducible refine below_drewN ?_ _) | (apply bthen2; (with_reducible assumption)) | go_size))); (focus (refine Ints.below IZ ?_; repeat' (first | (with_reducible exact Below.refl _ _) | (with_reducible assumption) | (with_reducible refine Below.alloc ?_ ?_ _) | (with_reducible refine Below.setCell ?_ ?_ _) | (with_reducible refine Below.drew ?_) | (with_reducible refine below_drewN ?_ _) | (apply bthen2; (with_reducible assumption)) | go_size))); rintro e u2 ⟨a5, l5, c5, rfl, o5, hb2⟩; have i5 := o5.ints; have tok := True.intro) | (go_at_call 110; clear tok; refine (HW1.out _ _ _ _ ?_).mono ?_; (focus (refine Ints.below i5 ?_; repeat' (first | (with_reducible exact Below.refl _ _) | (with_reducible assumption) | (with_reducible refine Below.alloc ?_ ?_ _) | (with_reducible refine Below.setCell ?_ ?_ _) | (with_reducible refine Below.drew ?_) | (with_reducible refine below_drewN ?_ _) | (apply bthen2; (with_reducible assumption)) | go_size))); rintro e u3 ⟨rfl, hb3⟩) | (go_at_call 110; refine (HW2.out _ _ _ _ ?_).mono ?_; (focus (refine Ints.below i4 ?_; repeat' (first | (with_reducible exact Below.refl _ _) | (with_reducible assumption) | (with_reducible refine Below.alloc ?_ ?_ _) | (with_reducible refine Below.setCell ?_ ?_ _) | (with_reducible refine Below.drew ?_) | (with_reducible refine below_drewN ?_ _) | (apply bthen2; (with_reducible assumption)) | go_size))); rintro e u4 ⟨rfl, hb4⟩)))
  all_goals
    go_wp2
    go_ret; exact gives rfl (by repeat' (first | (with_reducible exact Below.refl _ _) | (with_reducible assumption) | (with_reducible refine Below.alloc ?_ ?_ _) | (with_reducible refine Below.setCell ?_ ?_ _) | (with_reducible refine Below.drew ?_) | (with_reducible refine below_drewN ?_ _) | (apply bthen2; (with_reducible assumption)) | go_size))

set_option maxRecDepth 100000 in
set_option maxHeartbeats 2000000 in
theorem xdDivisor_any (A B p q : Int) (hC : isC A B = true) (a1 a2 : Option Addr) (l1 c1 l2 c2 : Nat) (w : World) (hp : Ints w (.slice a1 l1 c1) (dg p.natAbs)) (hq : Ints w (.slice a2 l2 c2) (dg q.natAbs)) (lp : (dg p.natAbs).length ≤ 1000000) (lq : (dg q.natAbs).length ≤ 1000000) :
    Calls Try.prog 79 #[.agg #[.int .i64 A, .int .i64 B], .agg #[.bool (decide (p < 0)), .slice a1 l1 c1], .agg #[.bool (decide (q < 0)), .slice a2 l2 c2]] w (Gives (.int .i64 (gcI q (gcI p (dN A B)))) w) := by
  obtain ⟨d1, d2⟩ := dsc_rng hC
  obtain ⟨n1, n2⟩ := dN_rng hC
  have HC := Lib.hid (fun W => ecDisc_any A B W)
  have HA := Lib.hid (fun W => l1Abs_any (dsc A B) W)
  have e0 : max (dsc A B) (wrap64 (-dsc A B)) = ((dsc A B).natAbs : Int) := by rw [win (by omega)]; omega
  rw [e0] at HA
  have HO1 := Lib.hid (fun W h => bgOver_z p a1 l1 c1 (dN A B) W h lp n1 (by omega))
  have HO2 := Lib.hid (fun W h => bgOver_z q a2 l2 c2 (dN A B) W h lq n1 (by omega))
  have m1 := Int.emod_nonneg p (show dN A B ≠ 0 by omega)
  have m2 := Int.emod_nonneg q (show dN A B ≠ 0 by omega)
  have g1 := gcI_pos p n1
  have HG1 := Lib.hid (fun W => bgCommon_any (dN A B) (p % dN A B) (by omega) m1 W)
  rw [Int.gcd_comm, gcI_mod] at HG1
  have HG2 := Lib.hid (fun W => bgCommon_any (gcI p (dN A B)) (q % dN A B) (by omega) m2 W)
  have eg : (Int.gcd (gcI p (dN A B)) (q % dN A B) : Int) = gcI q (gcI p (dN A B)) := by
    have h1 : Int.gcd (q % dN A B) (gcI p (dN A B)) = Int.gcd q (gcI p (dN A B)) := by
      have hd : gcI p (dN A B) ∣ dN A B := Int.gcd_dvd_right ..
      rw [← gcd_emod_l (q % dN A B), Int.emod_emod_of_dvd q hd, gcd_emod_l]
    rw [Int.gcd_comm, h1]; rfl
  rw [eg] at HG2
  have hw1 : wrap64 (4 * ((dsc A B).natAbs : Int)) = dN A B := win (n := 4 * ((dsc A B).natAbs : Int)) (by omega)
  have HP := Lib.hid hp; have HQ := Lib.hid hq
  unfold GivesZI at HO1 HO2
  clear hp hq lp lq hC d1 d2 n1 n2 m1 m2 g1 e0 eg
  generalize gcI q (gcI p (dN A B)) = G2 at *
  generalize gcI p (dN A B) = G1 at *
  generalize dg (p / dN A B).natAbs = D3 at *
  generalize decide (p / dN A B < 0) = n3 at *
  generalize dg (q / dN A B).natAbs = D4 at *
  generalize decide (q / dN A B < 0) = n4 at *
  generalize p % dN A B = R1 at *
  generalize q % dN A B = R2 at *
  generalize dN A B = N at *
  generalize dg p.natAbs = Dp at *
  generalize dg q.natAbs = Dq at *
  generalize decide (p < 0) = np at *
  generalize decide (q < 0) = nq at *
  generalize ((dsc A B).natAbs : Int) = M at *
  generalize dsc A B = d at *
  go_enter Try.func79, Try.ntmps79
  go_wp2_with fail
  refine (HC.out _).mono ?_
  rintro e wa ⟨rfl, hba⟩; have hza := hba.size; (try simp only [World.size_alloc, World.size_setCell, World.size_drew, World.heap_drewN] at hza); try (refine keepc hba (w.heap.size) ?_ ?_; (focus (first | omega | (simp <;> omega))); intro hca_0 hfa_0 hla_0); try (refine keepc hba (w.heap.size + 1) ?_ ?_; (focus (first | omega | (simp <;> omega))); intro hca_1 hfa_1 hla_1); try (refine keepc hba (w.heap.size + 1 + 1) ?_ ?_; (focus (first | omega | (simp <;> omega))); intro hca_2 hfa_2 hla_2)
  go_wp2_with fail
  refine (HA.out _).mono ?_
  rintro e wa' ⟨rfl, rfl⟩
  go_wp2_with fail
  refine (HO1.out _ ?_).mono ?_
  · refine Ints.below HP.out ?_; repeat' (first | (with_reducible exact Below.refl _ _) | (with_reducible assumption) | (with_reducible refine Below.alloc ?_ ?_ _) | (with_reducible refine Below.setCell ?_ ?_ _) | (with_reducible refine Below.drew ?_) | (with_reducible refine below_drewN ?_ _) | (apply bthen2; (with_reducible assumption)) | go_size)
  rintro e wb ⟨a3, l3, c3, rfl, ho3, hbb⟩
  have hzb := hbb.size; (try simp only [World.size_alloc, World.size_setCell, World.size_drew, World.heap_drewN] at hzb); try (refine keepc hbb (w.heap.size) ?_ ?_; (focus (first | omega | (simp <;> omega))); intro hcb_0 hfb_0 hlb_0); try (refine keepc hbb (w.heap.size + 1) ?_ ?_; (focus (first | omega | (simp <;> omega))); intro hcb_1 hfb_1 hlb_1); try (refine keepc hbb (w.heap.size + 1 + 1) ?_ ?_; (focus (first | omega | (simp <;> omega))); intro hcb_2 hfb_2 hlb_2)
  go_wp2_with fail
  refine (HO2.out _ ?_).mono ?_
  · refine Ints.below HQ.out ?_; repeat' (first | (with_reducible exact Below.refl _ _) | (with_reducible assumption) | (with_reducible refine Below.alloc ?_ ?_ _) | (with_reducible refine Below.setCell ?_ ?_ _) | (with_reducible refine Below.drew ?_) | (with_reducible refine below_drewN ?_ _) | (apply bthen2; (with_reducible assumption)) | go_size)
  rintro e wc ⟨a4, l4, c4, rfl, ho4, hbc⟩
  have hzc := hbc.size; (try simp only [World.size_alloc, World.size_setCell, World.size_drew, World.heap_drewN] at hzc); try (refine keepc hbc (w.heap.size) ?_ ?_; (focus (first | omega | (simp <;> omega))); intro hcc_0 hfc_0 hlc_0); try (refine keepc hbc (w.heap.size + 1) ?_ ?_; (focus (first | omega | (simp <;> omega))); intro hcc_1 hfc_1 hlc_1); try (refine keepc hbc (w.heap.size + 1 + 1) ?_ ?_; (focus (first | omega | (simp <;> omega))); intro hcc_2 hfc_2 hlc_2)
  go_wp2_with (first | (go_at_call_of 84 (N); refine (HG1.out _).mono ?_; rintro e w1 ⟨rfl, rfl⟩) | (go_at_call_of 84 (G1); refine (HG2.out _).mono ?_; rintro e w1 ⟨rfl, rfl⟩))
  go_ret; exact gives rfl (by repeat' (first | (with_reducible exact Below.refl _ _) | (with_reducible assumption) | (with_reducible refine Below.alloc ?_ ?_ _) | (with_reducible refine Below.setCell ?_ ?_ _) | (with_reducible refine Below.drew ?_) | (with_reducible refine below_drewN ?_ _) | (apply bthen2; (with_reducible assumption)) | go_size))

end Go.Proofs.Ytopdeoicglkbkaa
