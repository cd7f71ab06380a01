import Derived.Test.YtopdeoicglkbkaaDX2
set_option linter.unusedSimpArgs false
set_option linter.unusedVariables false
namespace Go.Proofs.Ytopdeoicglkbkaa
open Go.RowKit

noncomputable def dxV (A B : Int) (n1 : Bool) (xs : List Int) (n2 : Bool) (ys : List Int) : Bool × Bool × List Int × Bool × List Int :=
  if (isC A B && ratB n1 xs n2 ys) = true then dxR A B (zv n1 xs) (zv n2 ys) else (false, false, [], false, [])
theorem dxV_0 {A B : Int} {n1 n2 : Bool} {xs ys : List Int} (h : (isC A B && ratB n1 xs n2 ys) = false) : dxV A B n1 xs n2 ys = (false, false, [], false, []) := by unfold dxV; rw [h]; rfl
theorem dxV_2 {A B x z : Int} (h : isC A B = true) (h2 : ratB (decide (x < 0)) (dg x.natAbs) (decide (z < 0)) (dg z.natAbs) = true) : dxV A B (decide (x < 0)) (dg x.natAbs) (decide (z < 0)) (dg z.natAbs) = dxR A B x z := by
  unfold dxV; rw [h, h2, zv_z, zv_z]; rfl
theorem dxR_len (A B x z : Int) : (dxR A B x z).2.2.1.length ≤ 1000 ∧ (dxR A B x z).2.2.2.2.length ≤ 1000 := by
  unfold dxR
  split
  · simp
  · dsimp only
    by_cases g : dxK A B x z = true
    · rw [if_pos g, if_pos g]
      unfold dxK ratB at g
      simp only [Bool.and_eq_true, decide_eq_true_eq, inB] at g
      omega
    · rw [if_neg g, if_neg g]; simp
theorem dxV_len1 (A B : Int) (n1 n2 : Bool) (xs ys : List Int) : (dxV A B n1 xs n2 ys).2.2.1.length ≤ 1000 := by
  unfold dxV; split
  · exact (dxR_len _ _ _ _).1
  · simp
theorem dxV_len2 (A B : Int) (n1 n2 : Bool) (xs ys : List Int) : (dxV A B n1 xs n2 ys).2.2.2.2.length ≤ 1000 := by
  unfold dxV; split
  · exact (dxR_len _ _ _ _).2
  · simp

set_option maxHeartbeats 2000000 in
theorem DoubleX_any (A B : Int) (n1 n2 : Bool) (a1 a2 : Option Addr) (l1 l2 c1 c2 : Nat) (xs ys : List Int) (w : World) (hx : Ints w (.slice a1 l1 c1) xs) (hy : Ints w (.slice a2 l2 c2) ys) : Calls Try.prog 45 #[.agg #[.int .i64 A, .int .i64 B], .agg #[.bool n1, .slice a1 l1 c1, .bool n2, .slice a2 l2 c2]] w (GivesRT (dxV A B n1 xs n2 ys).1 (dxV A B n1 xs n2 ys).2.1 (dxV A B n1 xs n2 ys).2.2.1 (dxV A B n1 xs n2 ys).2.2.2.1 (dxV A B n1 xs n2 ys).2.2.2.2 w) := by
  have HX := Lib.hid hx; have HY := Lib.hid hy
  have HC := Lib.hid (fun W => isCurve_any A B W)
  have HR := Lib.hid (fun W h h' => isRatio_any n1 n2 a1 a2 l1 c1 l2 c2 xs ys W h h')
  cases gC : isC A B
  · rw [dxV_0 (by rw [gC]; rfl)]
    rw [gC] at HC
    clear gC hx hy
    go_enter Try.func45, Try.ntmps45
    go_wp2_with fail
    refine (HC.out _).mono ?_
    rintro e wa ⟨rfl, hba⟩; have hza := hba.size; (try simp only [World.size_alloc, World.size_setCell, World.size_drew, World.heap_drewN] at hza); try (refine keepc hba (w.heap.size) ?_ ?_; (focus (first | omega | (simp <;> omega))); intro hca_0 hfa_0 hla_0); try (refine keepc hba (w.heap.size + 1) ?_ ?_; (focus (first | omega | (simp <;> omega))); intro hca_1 hfa_1 hla_1); try (refine keepc hba (w.heap.size + 1 + 1) ?_ ?_; (focus (first | omega | (simp <;> omega))); intro hca_2 hfa_2 hla_2)
    go_wp2_with fail
    refine bodyPost_ret (v := .tuple #[.agg #[.bool false, .slice none 0 0, .bool false, .slice none 0 0], .bool false]) (by simp [results, Try.results45, go_sem, hca_2, hla_2, hfa_2]) rfl ⟨_, _, _, _, _, _, rfl, Twin.nil _ _, (by repeat' (first | (with_reducible exact Below.refl _ _) | (with_reducible assumption) | (with_reducible refine Below.alloc ?_ ?_ _) | (with_reducible refine Below.setCell ?_ ?_ _) | (with_reducible refine Below.drew ?_) | (with_reducible refine below_drewN ?_ _) | (apply bthen2; (with_reducible assumption)) | go_size))⟩
  cases gR : ratB n1 xs n2 ys
  · rw [dxV_0 (by rw [gR, Bool.and_false])]
    rw [gC] at HC; rw [gR] at HR
    clear gC gR hx hy
    go_enter Try.func45, Try.ntmps45
    go_wp2_with fail
    refine (HC.out _).mono ?_
    rintro e wa ⟨rfl, hba⟩; have hza := hba.size; (try simp only [World.size_alloc, World.size_setCell, World.size_drew, World.heap_drewN] at hza); try (refine keepc hba (w.heap.size) ?_ ?_; (focus (first | omega | (simp <;> omega))); intro hca_0 hfa_0 hla_0); try (refine keepc hba (w.heap.size + 1) ?_ ?_; (focus (first | omega | (simp <;> omega))); intro hca_1 hfa_1 hla_1); try (refine keepc hba (w.heap.size + 1 + 1) ?_ ?_; (focus (first | omega | (simp <;> omega))); intro hca_2 hfa_2 hla_2)
    go_wp2_with fail
    refine (HR.out _ ?_ ?_).mono ?_
    · refine Ints.below HX.out ?_; repeat' (first | (with_reducible exact Below.refl _ _) | (with_reducible assumption) | (with_reducible refine Below.alloc ?_ ?_ _) | (with_reducible refine Below.setCell ?_ ?_ _) | (with_reducible refine Below.drew ?_) | (with_reducible refine below_drewN ?_ _) | (apply bthen2; (with_reducible assumption)) | go_size)
    · refine Ints.below HY.out ?_; repeat' (first | (with_reducible exact Below.refl _ _) | (with_reducible assumption) | (with_reducible refine Below.alloc ?_ ?_ _) | (with_reducible refine Below.setCell ?_ ?_ _) | (with_reducible refine Below.drew ?_) | (with_reducible refine below_drewN ?_ _) | (apply bthen2; (with_reducible assumption)) | go_size)
    rintro e wb ⟨rfl, hbb⟩; have hzb := hbb.size; (try simp only [World.size_alloc, World.size_setCell, World.size_drew, World.heap_drewN] at hzb); try (refine keepc hbb (w.heap.size) ?_ ?_; (focus (first | omega | (simp <;> omega))); intro hcb_0 hfb_0 hlb_0); try (refine keepc hbb (w.heap.size + 1) ?_ ?_; (focus (first | omega | (simp <;> omega))); intro hcb_1 hfb_1 hlb_1); try (refine keepc hbb (w.heap.size + 1 + 1) ?_ ?_; (focus (first | omega | (simp <;> omega))); intro hcb_2 hfb_2 hlb_2)
    go_wp2_with fail
    refine bodyPost_ret (v := .tuple #[.agg #[.bool false, .slice none 0 0, .bool false, .slice none 0 0], .bool false]) (by simp [results, Try.results45, go_sem, hcb_2, hlb_2, hfb_2, hca_2, hla_2, hfa_2]) rfl ⟨_, _, _, _, _, _, rfl, Twin.nil _ _, (by repeat' (first | (with_reducible exact Below.refl _ _) | (with_reducible assumption) | (with_reducible refine Below.alloc ?_ ?_ _) | (with_reducible refine Below.setCell ?_ ?_ _) | (with_reducible refine Below.drew ?_) | (with_reducible refine below_drewN ?_ _) | (apply bthen2; (with_reducible assumption)) | go_size))⟩
  rw [gC] at HC; rw [gR] at HR
  obtain ⟨x, z, rfl, rfl, rfl, rfl, k1, k2, -⟩ := ratB_z gR
  have HD := Lib.hid (fun W h h' => doubleX_any A B x z gC a1 a2 l1 c1 l2 c2 W h h' k1 k2)
  rw [dxV_2 gC gR]
  obtain ⟨ok, k1, k2, k3, k4, hR⟩ : ∃ ok k1 k2 k3 k4, dxR A B x z = (ok, k1, k2, k3, k4) := ⟨_, _, _, _, _, rfl⟩
  rw [hR] at HD ⊢
  dsimp only at HD ⊢
  rename_i q1 q2
  clear hR gC gR q1 q2 hx hy
  generalize dg x.natAbs = Dx at *
  generalize dg z.natAbs = Dz at *
  generalize decide (x < 0) = nx at *
  generalize decide (z < 0) = nz at *
  go_enter Try.func45, Try.ntmps45
  go_wp2_with fail
  refine (HC.out _).mono ?_
  rintro e wa ⟨rfl, hba⟩; have hza := hba.size; (try simp only [World.size_alloc, World.size_setCell, World.size_drew, World.heap_drewN] at hza); try (refine keepc hba (w.heap.size) ?_ ?_; (focus (first | omega | (simp <;> omega))); intro hca_0 hfa_0 hla_0); try (refine keepc hba (w.heap.size + 1) ?_ ?_; (focus (first | omega | (simp <;> omega))); intro hca_1 hfa_1 hla_1); try (refine keepc hba (w.heap.size + 1 + 1) ?_ ?_; (focus (first | omega | (simp <;> omega))); intro hca_2 hfa_2 hla_2)
  go_wp2_with fail
  refine (HR.out _ ?_ ?_).mono ?_
  · refine Ints.below HX.out ?_; repeat' (first | (with_reducible exact Below.refl _ _) | (with_reducible assumption) | (with_reducible refine Below.alloc ?_ ?_ _) | (with_reducible refine Below.setCell ?_ ?_ _) | (with_reducible refine Below.drew ?_) | (with_reducible refine below_drewN ?_ _) | (apply bthen2; (with_reducible assumption)) | go_size)
  · refine Ints.below HY.out ?_; repeat' (first | (with_reducible exact Below.refl _ _) | (with_reducible assumption) | (with_reducible refine Below.alloc ?_ ?_ _) | (with_reducible refine Below.setCell ?_ ?_ _) | (with_reducible refine Below.drew ?_) | (with_reducible refine below_drewN ?_ _) | (apply bthen2; (with_reducible assumption)) | go_size)
  rintro e wb ⟨rfl, hbb⟩; have hzb := hbb.size; (try simp only [World.size_alloc, World.size_setCell, World.size_drew, World.heap_drewN] at hzb); try (refine keepc hbb (w.heap.size) ?_ ?_; (focus (first | omega | (simp <;> omega))); intro hcb_0 hfb_0 hlb_0); try (refine keepc hbb (w.heap.size + 1) ?_ ?_; (focus (first | omega | (simp <;> omega))); intro hcb_1 hfb_1 hlb_1); try (refine keepc hbb (w.heap.size + 1 + 1) ?_ ?_; (focus (first | omega | (simp <;> omega))); intro hcb_2 hfb_2 hlb_2)
  go_wp2_with fail
  refine (HD.out _ ?_ ?_).mono ?_
  · refine Ints.below HX.out ?_; repeat' (first | (with_reducible exact Below.refl _ _) | (with_reducible assumption) | (with_reducible refine Below.alloc ?_ ?_ _) | (with_reducible refine Below.setCell ?_ ?_ _) | (with_reducible refine Below.drew ?_) | (with_reducible refine below_drewN ?_ _) | (apply bthen2; (with_reducible assumption)) | go_size)
  · refine Ints.below HY.out ?_; repeat' (first | (with_reducible exact Below.refl _ _) | (with_reducible assumption) | (with_reducible refine Below.alloc ?_ ?_ _) | (with_reducible refine Below.setCell ?_ ?_ _) | (with_reducible refine Below.drew ?_) | (with_reducible refine below_drewN ?_ _) | (apply bthen2; (with_reducible assumption)) | go_size)
  rintro e wc ⟨a3, l3, c3, a4, l4, c4, rfl, tw, hbc⟩
  have hzc := hbc.size; (try simp only [World.size_alloc, World.size_setCell, World.size_drew, World.heap_drewN] at hzc); try (refine keepc hbc (w.heap.size) ?_ ?_; (focus (first | omega | (simp <;> omega))); intro hcc_0 hfc_0 hlc_0); try (refine keepc hbc (w.heap.size + 1) ?_ ?_; (focus (first | omega | (simp <;> omega))); intro hcc_1 hfc_1 hlc_1); try (refine keepc hbc (w.heap.size + 1 + 1) ?_ ?_; (focus (first | omega | (simp <;> omega))); intro hcc_2 hfc_2 hlc_2)
  have hk2 : w.heap.size + 1 + 1 < wb.heap.size := hlb_2
  go_wp2_with fail
  refine bodyPost_ret (v := .tuple #[.agg #[.bool k1, .slice a3 l3 c3, .bool k3, .slice a4 l4 c4], .bool ok]) (by simp [results, Try.results45, go_sem, hcc_2, hlc_2, hfc_2, hcb_2, hlb_2, hfb_2, hca_2, hla_2, hfa_2]) rfl ⟨_, _, _, _, _, _, rfl, ?_, (by repeat' (first | (with_reducible exact Below.refl _ _) | (with_reducible assumption) | (with_reducible refine Below.alloc ?_ ?_ _) | (with_reducible refine Below.setCell ?_ ?_ _) | (with_reducible refine Below.drew ?_) | (with_reducible refine below_drewN ?_ _) | (apply bthen2; (with_reducible assumption)) | go_size))⟩
  refine Twin.mono (B := wb.heap.size) ?_ (by omega)
  exact Twin.set (Twin.set (Twin.set (Twin.set tw (by show w.heap.size + 1 + 1 < wb.heap.size; omega) _) (by show w.heap.size + 1 + 1 < wb.heap.size; omega) _) (by show w.heap.size + 1 + 1 < wb.heap.size; omega) _) (by show w.heap.size + 1 + 1 < wb.heap.size; omega) _

set_option maxHeartbeats 2000000 in
theorem sDoubleX_any (A B : Int) (n1 n2 : Bool) (a1 a2 : Option Addr) (l1 l2 c1 c2 : Nat) (xs ys : List Int) (w : World) (hx : Ints w (.slice a1 l1 c1) xs) (hy : Ints w (.slice a2 l2 c2) ys) : Calls Try.prog 44 #[.agg #[.int .i64 A, .int .i64 B], .agg #[.bool n1, .slice a1 l1 c1, .bool n2, .slice a2 l2 c2]] w (GivesRT (dxV A B n1 xs n2 ys).1 (dxV A B n1 xs n2 ys).2.1 (dxV A B n1 xs n2 ys).2.2.1 (dxV A B n1 xs n2 ys).2.2.2.1 (dxV A B n1 xs n2 ys).2.2.2.2 w) := by
  have HX := Lib.hid hx; have HY := Lib.hid hy
  have HA := Lib.hid (fun W h h' => xdAsked_any A B n1 n2 a1 a2 l1 l2 c1 c2 xs ys W h h')
  cases gK : (isC A B && ratB n1 xs n2 ys)
  · rw [dxV_0 gK]
    rw [gK] at HA
    clear gK hx hy
    go_enter Try.func44, Try.ntmps44
    go_wp2_with fail
    refine (HA.out _ ?_ ?_).mono ?_
    · refine Ints.below HX.out ?_; repeat' (first | (with_reducible exact Below.refl _ _) | (with_reducible assumption) | (with_reducible refine Below.alloc ?_ ?_ _) | (with_reducible refine Below.setCell ?_ ?_ _) | (with_reducible refine Below.drew ?_) | (with_reducible refine below_drewN ?_ _) | (apply bthen2; (with_reducible assumption)) | go_size)
    · refine Ints.below HY.out ?_; repeat' (first | (with_reducible exact Below.refl _ _) | (with_reducible assumption) | (with_reducible refine Below.alloc ?_ ?_ _) | (with_reducible refine Below.setCell ?_ ?_ _) | (with_reducible refine Below.drew ?_) | (with_reducible refine below_drewN ?_ _) | (apply bthen2; (with_reducible assumption)) | go_size)
    rintro e wb ⟨rfl, hbb⟩; have hzb := hbb.size; (try simp only [World.size_alloc, World.size_setCell, World.size_drew, World.heap_drewN] at hzb); try (refine keepc hbb (w.heap.size) ?_ ?_; (focus (first | omega | (simp <;> omega))); intro hcb_0 hfb_0 hlb_0); try (refine keepc hbb (w.heap.size + 1) ?_ ?_; (focus (first | omega | (simp <;> omega))); intro hcb_1 hfb_1 hlb_1); try (refine keepc hbb (w.heap.size + 1 + 1) ?_ ?_; (focus (first | omega | (simp <;> omega))); intro hcb_2 hfb_2 hlb_2)
    go_wp2_with fail
    refine bodyPost_ret (v := .tuple #[.agg #[.bool false, .slice none 0 0, .bool false, .slice none 0 0], .bool false]) (by simp [results, Try.results44, go_sem, hcb_2, hlb_2, hfb_2]) rfl ⟨_, _, _, _, _, _, rfl, Twin.nil _ _, (by repeat' (first | (with_reducible exact Below.refl _ _) | (with_reducible assumption) | (with_reducible refine Below.alloc ?_ ?_ _) | (with_reducible refine Below.setCell ?_ ?_ _) | (with_reducible refine Below.drew ?_) | (with_reducible refine below_drewN ?_ _) | (apply bthen2; (with_reducible assumption)) | go_size))⟩
  rw [gK] at HA
  obtain ⟨gC, gR⟩ := (Bool.and_eq_true_iff).1 gK
  clear gK
  obtain ⟨x, z, rfl, rfl, rfl, rfl, k1, k2, -⟩ := ratB_z gR
  have HD := Lib.hid (fun W h h' => xdDouble_any A B x z gC a1 a2 l1 c1 l2 c2 W h h' k1 k2)
  rw [dxV_2 gC gR]
  obtain ⟨ok, k1, k2, k3, k4, hR⟩ : ∃ ok k1 k2 k3 k4, dxR A B x z = (ok, k1, k2, k3, k4) := ⟨_, _, _, _, _, rfl⟩
  rw [hR] at HD ⊢
  dsimp only at HD ⊢
  rename_i q1 q2
  clear hR gC gR q1 q2 hx hy
  generalize dg x.natAbs = Dx at *
  generalize dg z.natAbs = Dz at *
  generalize decide (x < 0) = nx at *
  generalize decide (z < 0) = nz at *
  go_enter Try.func44, Try.ntmps44
  go_wp2_with fail
  refine (HA.out _ ?_ ?_).mono ?_
  · refine Ints.below HX.out ?_; repeat' (first | (with_reducible exact Below.refl _ _) | (with_reducible assumption) | (with_reducible refine Below.alloc ?_ ?_ _) | (with_reducible refine Below.setCell ?_ ?_ _) | (with_reducible refine Below.drew ?_) | (with_reducible refine below_drewN ?_ _) | (apply bthen2; (with_reducible assumption)) | go_size)
  · refine Ints.below HY.out ?_; repeat' (first | (with_reducible exact Below.refl _ _) | (with_reducible assumption) | (with_reducible refine Below.alloc ?_ ?_ _) | (with_reducible refine Below.setCell ?_ ?_ _) | (with_reducible refine Below.drew ?_) | (with_reducible refine below_drewN ?_ _) | (apply bthen2; (with_reducible assumption)) | go_size)
  rintro e wb ⟨rfl, hbb⟩; have hzb := hbb.size; (try simp only [World.size_alloc, World.size_setCell, World.size_drew, World.heap_drewN] at hzb); try (refine keepc hbb (w.heap.size) ?_ ?_; (focus (first | omega | (simp <;> omega))); intro hcb_0 hfb_0 hlb_0); try (refine keepc hbb (w.heap.size + 1) ?_ ?_; (focus (first | omega | (simp <;> omega))); intro hcb_1 hfb_1 hlb_1); try (refine keepc hbb (w.heap.size + 1 + 1) ?_ ?_; (focus (first | omega | (simp <;> omega))); intro hcb_2 hfb_2 hlb_2)
  go_wp2_with fail
  refine (HD.out _ ?_ ?_).mono ?_
  · refine Ints.below HX.out ?_; repeat' (first | (with_reducible exact Below.refl _ _) | (with_reducible assumption) | (with_reducible refine Below.alloc ?_ ?_ _) | (with_reducible refine Below.setCell ?_ ?_ _) | (with_reducible refine Below.drew ?_) | (with_reducible refine below_drewN ?_ _) | (apply bthen2; (with_reducible assumption)) | go_size)
  · refine Ints.below HY.out ?_; repeat' (first | (with_reducible exact Below.refl _ _) | (with_reducible assumption) | (with_reducible refine Below.alloc ?_ ?_ _) | (with_reducible refine Below.setCell ?_ ?_ _) | (with_reducible refine Below.drew ?_) | (with_reducible refine below_drewN ?_ _) | (apply bthen2; (with_reducible assumption)) | go_size)
  rintro e wc ⟨a3, l3, c3, a4, l4, c4, rfl, tw, hbc⟩
  have hzc := hbc.size; (try simp only [World.size_alloc, World.size_setCell, World.size_drew, World.heap_drewN] at hzc); try (refine keepc hbc (w.heap.size) ?_ ?_; (focus (first | omega | (simp <;> omega))); intro hcc_0 hfc_0 hlc_0); try (refine keepc hbc (w.heap.size + 1) ?_ ?_; (focus (first | omega | (simp <;> omega))); intro hcc_1 hfc_1 hlc_1); try (refine keepc hbc (w.heap.size + 1 + 1) ?_ ?_; (focus (first | omega | (simp <;> omega))); intro hcc_2 hfc_2 hlc_2)
  have hk2 : w.heap.size + 1 + 1 < wb.heap.size := hlb_2
  go_wp2_with fail
  refine bodyPost_ret (v := .tuple #[.agg #[.bool k1, .slice a3 l3 c3, .bool k3, .slice a4 l4 c4], .bool ok]) (by simp [results, Try.results44, go_sem, hcc_2, hlc_2, hfc_2, hcb_2, hlb_2, hfb_2]) rfl ⟨_, _, _, _, _, _, rfl, ?_, (by repeat' (first | (with_reducible exact Below.refl _ _) | (with_reducible assumption) | (with_reducible refine Below.alloc ?_ ?_ _) | (with_reducible refine Below.setCell ?_ ?_ _) | (with_reducible refine Below.drew ?_) | (with_reducible refine below_drewN ?_ _) | (apply bthen2; (with_reducible assumption)) | go_size))⟩
  refine Twin.mono (B := wb.heap.size) ?_ (by omega)
  exact Twin.set (Twin.set (Twin.set (Twin.set tw (by show w.heap.size + 1 + 1 < wb.heap.size; omega) _) (by show w.heap.size + 1 + 1 < wb.heap.size; omega) _) (by show w.heap.size + 1 + 1 < wb.heap.size; omega) _) (by show w.heap.size + 1 + 1 < wb.heap.size; omega) _

end Go.Proofs.Ytopdeoicglkbkaa
