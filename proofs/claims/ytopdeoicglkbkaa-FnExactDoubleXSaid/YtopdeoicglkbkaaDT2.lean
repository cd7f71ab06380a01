import Derived.Test.YtopdeoicglkbkaaDT
set_option linter.unusedSimpArgs false
set_option linter.unusedVariables false
namespace Go.Proofs.Ytopdeoicglkbkaa
open Go.RowKit

theorem dt_0 {A B : Int} {n1 n2 : Bool} {xs ys : List Int} (h : isC A B = false) : dtV A B n1 xs n2 ys = (0, false) := by unfold dtV; rw [h]; rfl
theorem dt_1 {A B : Int} {n1 n2 : Bool} {xs ys : List Int} (h : ratB n1 xs n2 ys = false) : dtV A B n1 xs n2 ys = (0, false) := by unfold dtV; rw [h, Bool.and_false]; rfl
theorem dt_2 {A B x z : Int} (h : isC A B = true) (h2 : ratB (decide (x < 0)) (dg x.natAbs) (decide (z < 0)) (dg z.natAbs) = true) : dtV A B (decide (x < 0)) (dg x.natAbs) (decide (z < 0)) (dg z.natAbs) = (dtP A B x z, true) := by
  unfold dtV; rw [h, h2, zv_z, zv_z]; rfl

set_option maxHeartbeats 2000000 in
theorem DivisorTaken_any (A B : Int) (n1 n2 : Bool) (a1 a2 : Option Addr) (l1 l2 c1 c2 : Nat) (xs ys : List Int) (w : World) (hx : Ints w (.slice a1 l1 c1) xs) (hy : Ints w (.slice a2 l2 c2) ys) : Calls Try.prog 43 #[.agg #[.int .i64 A, .int .i64 B], .agg #[.bool n1, .slice a1 l1 c1, .bool n2, .slice a2 l2 c2]] w (Gives (.tuple #[.int .i64 (dtV A B n1 xs n2 ys).1, .bool (dtV A B n1 xs n2 ys).2]) w) := by
  have HC := Lib.hid (fun W => isCurve_any A B W)
  have HR := Lib.hid (fun W h h' => isRatio_any n1 n2 a1 a2 l1 c1 l2 c2 xs ys W h h')
  have HX := Lib.hid hx; have HY := Lib.hid hy
  cases gC : isC A B
  · rw [dt_0 gC]
    rw [gC] at HC
    clear gC hx hy
    go_enter Try.func43, Try.ntmps43
    go_wp2_with fail
    refine (HC.out _).mono ?_
    rintro e wa ⟨rfl, hba⟩; have hza := hba.size; (try simp only [World.size_alloc, World.size_setCell, World.size_drew, World.heap_drewN] at hza); try (refine keepc hba (w.heap.size) ?_ ?_; (focus (first | omega | (simp <;> omega))); intro hca_0 hfa_0 hla_0); try (refine keepc hba (w.heap.size + 1) ?_ ?_; (focus (first | omega | (simp <;> omega))); intro hca_1 hfa_1 hla_1); try (refine keepc hba (w.heap.size + 1 + 1) ?_ ?_; (focus (first | omega | (simp <;> omega))); intro hca_2 hfa_2 hla_2)
    go_wp2_with fail
    refine bodyPost_ret (v := .tuple #[.int .i64 0, .bool false]) (by simp [results, Try.results43, go_sem]) rfl (gives rfl (by repeat' (first | (with_reducible exact Below.refl _ _) | (with_reducible assumption) | (with_reducible refine Below.alloc ?_ ?_ _) | (with_reducible refine Below.setCell ?_ ?_ _) | (with_reducible refine Below.drew ?_) | (with_reducible refine below_drewN ?_ _) | (apply bthen2; (with_reducible assumption)) | go_size)))
  cases gR : ratB n1 xs n2 ys
  · rw [dt_1 gR]
    rw [gC] at HC; rw [gR] at HR
    clear gC gR hx hy
    go_enter Try.func43, Try.ntmps43
    go_wp2_with fail
    refine (HC.out _).mono ?_
    rintro e wa ⟨rfl, hba⟩; have hza := hba.size; (try simp only [World.size_alloc, World.size_setCell, World.size_drew, World.heap_drewN] at hza); try (refine keepc hba (w.heap.size) ?_ ?_; (focus (first | omega | (simp <;> omega))); intro hca_0 hfa_0 hla_0); try (refine keepc hba (w.heap.size + 1) ?_ ?_; (focus (first | omega | (simp <;> omega))); intro hca_1 hfa_1 hla_1); try (refine keepc hba (w.heap.size + 1 + 1) ?_ ?_; (focus (first | omega | (simp <;> omega))); intro hca_2 hfa_2 hla_2)
    go_wp2_with fail
    refine (HR.out _ ?_ ?_).mono ?_
    · refine Ints.below HX.out ?_; repeat' (first | (with_reducible exact Below.refl _ _) | (with_reducible assumption) | (with_reducible refine Below.alloc ?_ ?_ _) | (with_reducible refine Below.setCell ?_ ?_ _) | (with_reducible refine Below.drew ?_) | (with_reducible refine below_drewN ?_ _) | (apply bthen2; (with_reducible assumption)) | go_size)
    · refine Ints.below HY.out ?_; repeat' (first | (with_reducible exact Below.refl _ _) | (with_reducible assumption) | (with_reducible refine Below.alloc ?_ ?_ _) | (with_reducible refine Below.setCell ?_ ?_ _) | (with_reducible refine Below.drew ?_) | (with_reducible refine below_drewN ?_ _) | (apply bthen2; (with_reducible assumption)) | go_size)
    rintro e wb ⟨rfl, hbb⟩; have hzb := hbb.size; (try simp only [World.size_alloc, World.size_setCell, World.size_drew, World.heap_drewN] at hzb); try (refine keepc hbb (w.heap.size) ?_ ?_; (focus (first | omega | (simp <;> omega))); intro hcb_0 hfb_0 hlb_0); try (refine keepc hbb (w.heap.size + 1) ?_ ?_; (focus (first | omega | (simp <;> omega))); intro hcb_1 hfb_1 hlb_1); try (refine keepc hbb (w.heap.size + 1 + 1) ?_ ?_; (focus (first | omega | (simp <;> omega))); intro hcb_2 hfb_2 hlb_2)
    go_wp2_with fail
    refine bodyPost_ret (v := .tuple #[.int .i64 0, .bool false]) (by simp [results, Try.results43, go_sem]) rfl (gives rfl (by repeat' (first | (with_reducible exact Below.refl _ _) | (with_reducible assumption) | (with_reducible refine Below.alloc ?_ ?_ _) | (with_reducible refine Below.setCell ?_ ?_ _) | (with_reducible refine Below.drew ?_) | (with_reducible refine below_drewN ?_ _) | (apply bthen2; (with_reducible assumption)) | go_size)))
  rw [gC] at HC; rw [gR] at HR
  obtain ⟨x, z, rfl, rfl, rfl, rfl, k1, k2, -⟩ := ratB_z gR
  have HD := Lib.hid (fun W h h' => divisorTaken_any A B x z gC a1 a2 l1 c1 l2 c2 W h h' k1 k2)
  rw [dt_2 gC gR]
  dsimp only
  clear gC gR k1 k2 hx hy
  generalize dtP A B x z = G at *
  generalize dg x.natAbs = Dx at *
  generalize dg z.natAbs = Dz at *
  generalize decide (x < 0) = nx at *
  generalize decide (z < 0) = nz at *
  go_enter Try.func43, Try.ntmps43
  go_wp2_with fail
  refine (HC.out _).mono ?_
  rintro e wa ⟨rfl, hba⟩; have hza := hba.size; (try simp only [World.size_alloc, World.size_setCell, World.size_drew, World.heap_drewN] at hza); try (refine keepc hba (w.heap.size) ?_ ?_; (focus (first | omega | (simp <;> omega))); intro hca_0 hfa_0 hla_0); try (refine keepc hba (w.heap.size + 1) ?_ ?_; (focus (first | omega | (simp <;> omega))); intro hca_1 hfa_1 hla_1); try (refine keepc hba (w.heap.size + 1 + 1) ?_ ?_; (focus (first | omega | (simp <;> omega))); intro hca_2 hfa_2 hla_2)
  go_wp2_with fail
  refine (HR.out _ ?_ ?_).mono ?_
  · refine Ints.below HX.out ?_; repeat' (first | (with_reducible exact Below.refl _ _) | (with_reducible assumption) | (with_reducible refine Below.alloc ?_ ?_ _) | (with_reducible refine Below.setCell ?_ ?_ _) | (with_reducible refine Below.drew ?_) | (with_reducible refine below_drewN ?_ _) | (apply bthen2; (with_reducible assumption)) | go_size)
  · refine Ints.below HY.out ?_; repeat' (first | (with_reducible exact Below.refl _ _) | (with_reducible assumption) | (with_reducible refine Below.alloc ?_ ?_ _) | (with_reducible refine Below.setCell ?_ ?_ _) | (with_reducible refine Below.drew ?_) | (with_reducible refine below_drewN ?_ _) | (apply bthen2; (with_reducible assumption)) | go_size)
  rintro e wb ⟨rfl, hbb⟩; have hzb := hbb.size; (try simp only [World.size_alloc, World.size_setCell, World.size_drew, World.heap_drewN] at hzb); try (refine keepc hbb (w.heap.size) ?_ ?_; (focus (first | omega | (simp <;> omega))); intro hcb_0 hfb_0 hlb_0); try (refine keepc hbb (w.heap.size + 1) ?_ ?_; (focus (first | omega | (simp <;> omega))); intro hcb_1 hfb_1 hlb_1); try (refine keepc hbb (w.heap.size + 1 + 1) ?_ ?_; (focus (first | omega | (simp <;> omega))); intro hcb_2 hfb_2 hlb_2)
  go_wp2_with fail
  refine (HD.out _ ?_ ?_).mono ?_
  · refine Ints.below HX.out ?_; repeat' (first | (with_reducible exact Below.refl _ _) | (with_reducible assumption) | (with_reducible refine Below.alloc ?_ ?_ _) | (with_reducible refine Below.setCell ?_ ?_ _) | (with_reducible refine Below.drew ?_) | (with_reducible refine below_drewN ?_ _) | (apply bthen2; (with_reducible assumption)) | go_size)
  · refine Ints.below HY.out ?_; repeat' (first | (with_reducible exact Below.refl _ _) | (with_reducible assumption) | (with_reducible refine Below.alloc ?_ ?_ _) | (with_reducible refine Below.setCell ?_ ?_ _) | (with_reducible refine Below.drew ?_) | (with_reducible refine below_drewN ?_ _) | (apply bthen2; (with_reducible assumption)) | go_size)
  rintro e wc ⟨rfl, hbc⟩; have hzc := hbc.size; (try simp only [World.size_alloc, World.size_setCell, World.size_drew, World.heap_drewN] at hzc); try (refine keepc hbc (w.heap.size) ?_ ?_; (focus (first | omega | (simp <;> omega))); intro hcc_0 hfc_0 hlc_0); try (refine keepc hbc (w.heap.size + 1) ?_ ?_; (focus (first | omega | (simp <;> omega))); intro hcc_1 hfc_1 hlc_1); try (refine keepc hbc (w.heap.size + 1 + 1) ?_ ?_; (focus (first | omega | (simp <;> omega))); intro hcc_2 hfc_2 hlc_2)
  go_wp2_with fail
  refine bodyPost_ret (v := .tuple #[.int .i64 G, .bool true]) (by simp [results, Try.results43, go_sem]) rfl (gives rfl (by repeat' (first | (with_reducible exact Below.refl _ _) | (with_reducible assumption) | (with_reducible refine Below.alloc ?_ ?_ _) | (with_reducible refine Below.setCell ?_ ?_ _) | (with_reducible refine Below.drew ?_) | (with_reducible refine below_drewN ?_ _) | (apply bthen2; (with_reducible assumption)) | go_size)))

set_option maxRecDepth 100000 in
set_option maxHeartbeats 4000000 in
theorem sDivisorTaken_any (A B : Int) (n1 n2 : Bool) (a1 a2 : Option Addr) (l1 l2 c1 c2 : Nat) (xs ys : List Int) (w : World) (hx : Ints w (.slice a1 l1 c1) xs) (hy : Ints w (.slice a2 l2 c2) ys) : Calls Try.prog 42 #[.agg #[.int .i64 A, .int .i64 B], .agg #[.bool n1, .slice a1 l1 c1, .bool n2, .slice a2 l2 c2]] w (Gives (.tuple #[.int .i64 (dtV A B n1 xs n2 ys).1, .bool (dtV A B n1 xs n2 ys).2]) w) := by
  have HA := Lib.hid (fun W h h' => xdAsked_any A B n1 n2 a1 a2 l1 l2 c1 c2 xs ys W h h')
  have HX := Lib.hid hx; have HY := Lib.hid hy
  cases gK : (isC A B && ratB n1 xs n2 ys)
  · have e : dtV A B n1 xs n2 ys = (0, false) := by
      rcases (Bool.and_eq_false_iff.1 gK) with h | h
      · exact dt_0 h
      · exact dt_1 h
    rw [e]
    rw [gK] at HA
    clear gK e hx hy
    go_enter Try.func42, Try.ntmps42
    go_wp2_with fail
    refine (HA.out _ ?_ ?_).mono ?_
    · refine Ints.below HX.out ?_; repeat' (first | (with_reducible exact Below.refl _ _) | (with_reducible assumption) | (with_reducible refine Below.alloc ?_ ?_ _) | (with_reducible refine Below.setCell ?_ ?_ _) | (with_reducible refine Below.drew ?_) | (with_reducible refine below_drewN ?_ _) | (apply bthen2; (with_reducible assumption)) | go_size)
    · refine Ints.below HY.out ?_; repeat' (first | (with_reducible exact Below.refl _ _) | (with_reducible assumption) | (with_reducible refine Below.alloc ?_ ?_ _) | (with_reducible refine Below.setCell ?_ ?_ _) | (with_reducible refine Below.drew ?_) | (with_reducible refine below_drewN ?_ _) | (apply bthen2; (with_reducible assumption)) | go_size)
    rintro e wb ⟨rfl, hbb⟩; have hzb := hbb.size; (try simp only [World.size_alloc, World.size_setCell, World.size_drew, World.heap_drewN] at hzb); try (refine keepc hbb (w.heap.size) ?_ ?_; (focus (first | omega | (simp <;> omega))); intro hcb_0 hfb_0 hlb_0); try (refine keepc hbb (w.heap.size + 1) ?_ ?_; (focus (first | omega | (simp <;> omega))); intro hcb_1 hfb_1 hlb_1); try (refine keepc hbb (w.heap.size + 1 + 1) ?_ ?_; (focus (first | omega | (simp <;> omega))); intro hcb_2 hfb_2 hlb_2)
    go_wp2_with fail
    refine bodyPost_ret (v := .tuple #[.int .i64 0, .bool false]) (by simp [results, Try.results42, go_sem]) rfl (gives rfl (by repeat' (first | (with_reducible exact Below.refl _ _) | (with_reducible assumption) | (with_reducible refine Below.alloc ?_ ?_ _) | (with_reducible refine Below.setCell ?_ ?_ _) | (with_reducible refine Below.drew ?_) | (with_reducible refine below_drewN ?_ _) | (apply bthen2; (with_reducible assumption)) | go_size)))
  rw [gK] at HA
  obtain ⟨gC, gR⟩ := (Bool.and_eq_true_iff).1 gK
  obtain ⟨r1, r2⟩ := isC_rng gC
  obtain ⟨x, z, rfl, rfl, rfl, rfl, k1, k2, -⟩ := ratB_z gR
  have HT := Lib.hid (fun W h h' => xdTop_any A B x z r1 r2 a1 a2 l1 c1 l2 c2 W h h' k1 k2)
  have HB := Lib.hid (fun W h h' => xdBottom_any A B x z r1 r2 a1 a2 l1 c1 l2 c2 W h h' k1 k2)
  have HD := Lib.hid (fun b1 m1 d1 b2 m2 d2 W h h' => xdDivisor_any A B (numP A B x z) (denP A B x z) gC b1 b2 m1 d1 m2 d2 W h h' (numP_len gC k1 k2) (denP_len gC k1 k2))
  rw [dt_2 gC gR]
  unfold dtP
  unfold GivesZ at HT HB
  dsimp only
  clear gK gC gR r1 r2 k1 k2 hx hy
  generalize gcI (denP A B x z) (gcI (numP A B x z) (dN A B)) = G at *
  generalize decide (numP A B x z < 0) = nN at *
  generalize dg (numP A B x z).natAbs = DN at *
  generalize decide (denP A B x z < 0) = nD at *
  generalize dg (denP A B x z).natAbs = DD at *
  generalize dg x.natAbs = Dx at *
  generalize dg z.natAbs = Dz at *
  generalize decide (x < 0) = nx at *
  generalize decide (z < 0) = nz at *
  go_enter Try.func42, Try.ntmps42
  go_upto_region 1 with fail
  refine name_world (fun V0 hV0 => ?_)
  have Bc : Box V0 (w.heap.size) [.int .i64 A, .int .i64 B] := by subst hV0; exact box_two (by first | (simp; done) | (simp; omega)) (by simp [go_sem]) (by simp [go_sem]) (fun o => by simp [go_sem])
  have Br : Box V0 (w.heap.size + 1) [.bool nx, .slice a1 l1 c1, .bool nz, .slice a2 l2 c2] := by subst hV0; exact box_four (by first | (simp; done) | (simp; omega)) (by simp [go_sem]) (by simp [go_sem]) (by simp [go_sem]) (by simp [go_sem]) (fun o => by simp [go_sem])
  have hB : Below w.heap.size w V0 := by subst hV0; exact (by repeat' (first | (with_reducible exact Below.refl _ _) | (with_reducible assumption) | (with_reducible refine Below.alloc ?_ ?_ _) | (with_reducible refine Below.setCell ?_ ?_ _) | (with_reducible refine Below.drew ?_) | (with_reducible refine below_drewN ?_ _) | (apply bthen2; (with_reducible assumption)) | go_size))
  clear hV0
  have e0 := Bc.2.1 0 _ rfl; have e1 := Bc.2.1 1 _ rfl; have e2 := Br.2.1 0 _ rfl; have e3 := Br.2.1 1 _ rfl; have e4 := Br.2.1 2 _ rfl; have e5 := Br.2.1 3 _ rfl
  go_wp2_with fail
  refine (HA.out _ ?_ ?_).mono ?_
  · exact HX.out.below hB
  · exact HY.out.below hB
  rintro e W1 ⟨rfl, hb⟩
  replace hB : Below w.heap.size w W1 := hB.trans (hb.mono hB.size)
  replace Bc := Bc.below hb; replace Br := Br.below hb
  clear e0 e1 e2 e3 e4 e5 hb
  have IX := HX.out.below hB; have IZ := HY.out.below hB
  go_upto_region 3 with fail
  go_region_held3 (fun w' => Below W1.heap.size W1 w' ∧ w'.cell? ⟨w.heap.size, 0, none⟩ = some (.int .i64 A) ∧ w'.cell? ⟨w.heap.size, 1, none⟩ = some (.int .i64 B) ∧ w'.cell? ⟨w.heap.size + 1, 0, none⟩ = some (.bool nx) ∧ w'.cell? ⟨w.heap.size + 1, 1, none⟩ = some (.slice a1 l1 c1) ∧ w'.cell? ⟨w.heap.size + 1, 2, none⟩ = some (.bool nz) ∧ w'.cell? ⟨w.heap.size + 1, 3, none⟩ = some (.slice a2 l2 c2)) ((refine (fun hbK => And.intro hbK (by exact ⟨(hbK.cell (p := ⟨w.heap.size, 0, none⟩) Bc.1).trans (Bc.2.1 0 _ rfl), (hbK.cell (p := ⟨w.heap.size, 1, none⟩) Bc.1).trans (Bc.2.1 1 _ rfl), (hbK.cell (p := ⟨w.heap.size + 1, 0, none⟩) Br.1).trans (Br.2.1 0 _ rfl), (hbK.cell (p := ⟨w.heap.size + 1, 1, none⟩) Br.1).trans (Br.2.1 1 _ rfl), (hbK.cell (p := ⟨w.heap.size + 1, 2, none⟩) Br.1).trans (Br.2.1 2 _ rfl), (hbK.cell (p := ⟨w.heap.size + 1, 3, none⟩) Br.1).trans (Br.2.1 3 _ rfl)⟩)) ?_; repeat' (first | (with_reducible exact Below.refl _ _) | (with_reducible assumption) | (with_reducible refine Below.alloc ?_ ?_ _) | (with_reducible refine Below.setCell ?_ ?_ _) | (with_reducible refine Below.drew ?_) | (with_reducible refine below_drewN ?_ _) | (apply bthen2; (with_reducible assumption)) | go_size))) ((first | (go_at_call 77; refine (HT.out _ ?_ ?_).mono ?_; (focus (refine Ints.below IX ?_; repeat' (first | (with_reducible exact Below.refl _ _) | (with_reducible assumption) | (with_reducible refine Below.alloc ?_ ?_ _) | (with_reducible refine Below.setCell ?_ ?_ _) | (with_reducible refine Below.drew ?_) | (with_reducible refine below_drewN ?_ _) | (apply bthen2; (with_reducible assumption)) | go_size))); (focus (refine Ints.below IZ ?_; repeat' (first | (with_reducible exact Below.refl _ _) | (with_reducible assumption) | (with_reducible refine Below.alloc ?_ ?_ _) | (with_reducible refine Below.setCell ?_ ?_ _) | (with_reducible refine Below.drew ?_) | (with_reducible refine below_drewN ?_ _) | (apply bthen2; (with_reducible assumption)) | go_size))); rintro e u1 ⟨a4, l4, c4, rfl, o4, hb1⟩; have i4 := o4.ints) | (go_at_call 69; refine (HB.out _ ?_ ?_).mono ?_; (focus (refine Ints.below IX ?_; repeat' (first | (with_reducible exact Below.refl _ _) | (with_reducible assumption) | (with_reducible refine Below.alloc ?_ ?_ _) | (with_reducible refine Below.setCell ?_ ?_ _) | (with_reducible refine Below.drew ?_) | (with_reducible refine below_drewN ?_ _) | (apply bthen2; (with_reducible assumption)) | go_size))); (focus (refine Ints.below IZ ?_; repeat' (first | (with_reducible exact Below.refl _ _) | (with_reducible assumption) | (with_reducible refine Below.alloc ?_ ?_ _) | (with_reducible refine Below.setCell ?_ ?_ _) | (with_reducible refine Below.drew ?_) | (with_reducible refine below_drewN ?_ _) | (apply bthen2; (with_reducible assumption)) | go_size))); rintro e u2 ⟨a5, l5, c5, rfl, o5, hb2⟩; have i5 := o5.ints) | (go_at_call 79; refine (HD.out _ _ _ _ _ _ _ ?_ ?_).mono ?_; (focus (refine Ints.below i4 ?_; repeat' (first | (with_reducible exact Below.refl _ _) | (with_reducible assumption) | (with_reducible refine Below.alloc ?_ ?_ _) | (with_reducible refine Below.setCell ?_ ?_ _) | (with_reducible refine Below.drew ?_) | (with_reducible refine below_drewN ?_ _) | (apply bthen2; (with_reducible assumption)) | go_size))); (focus (refine Ints.below i5 ?_; repeat' (first | (with_reducible exact Below.refl _ _) | (with_reducible assumption) | (with_reducible refine Below.alloc ?_ ?_ _) | (with_reducible refine Below.setCell ?_ ?_ _) | (with_reducible refine Below.drew ?_) | (with_reducible refine below_drewN ?_ _) | (apply bthen2; (with_reducible assumption)) | go_size))); rintro e u3 ⟨rfl, hb3⟩)))
  all_goals
    go_wp2_with fail
    refine bodyPost_ret (v := .tuple #[.int .i64 G, .bool true]) (by simp [results, Try.results42, go_sem]) rfl (gives rfl (by repeat' (first | (with_reducible exact Below.refl _ _) | (with_reducible assumption) | (with_reducible refine Below.alloc ?_ ?_ _) | (with_reducible refine Below.setCell ?_ ?_ _) | (with_reducible refine Below.drew ?_) | (with_reducible refine below_drewN ?_ _) | (apply bthen2; (with_reducible assumption)) | go_size)))

end Go.Proofs.Ytopdeoicglkbkaa
