import Derived.Test.YtopdeoicglkbkaaNB
import Derived.Test.YtopdeoicglkbkaaPol5
import Derived.Test.YtopdeoicglkbkaaCmpR
import Derived.Test.YtopdeoicglkbkaaLog
import Derived.Test.YtopdeoicglkbkaaLawW3
set_option linter.unusedSimpArgs false
set_option linter.unusedVariables false
namespace Go.Proofs.Ytopdeoicglkbkaa
open Go.RowKit
/-! ### the numbers before they are divided -/

set_option maxRecDepth 100000 in
set_option maxHeartbeats 2000000 in
theorem NumeratorBefore_any (A B : Int) (n1 n2 : Bool) (a1 a2 : Option Addr) (l1 l2 c1 c2 : Nat) (xs ys : List Int) (w : World) (hx : Ints w (.slice a1 l1 c1) xs) (hy : Ints w (.slice a2 l2 c2) ys) : Calls Try.prog 39 #[.agg #[.int .i64 A, .int .i64 B], .agg #[.bool n1, .slice a1 l1 c1, .bool n2, .slice a2 l2 c2]] w (GivesWB (nbV numP A B n1 xs n2 ys).1 (nbV numP A B n1 xs n2 ys).2.1 (nbV numP A B n1 xs n2 ys).2.2 w) := by
  have HC := Lib.hid (fun W => isCurve_any A B W)
  have HR := Lib.hid (fun W h h' => isRatio_any n1 n2 a1 a2 l1 c1 l2 c2 xs ys W h h')
  have HX := Lib.hid hx; have HY := Lib.hid hy
  cases gC : isC A B
  · rw [nb_0 numP gC]
    rw [gC] at HC
    clear gC hx hy
    go_enter Try.func39, Try.ntmps39
    go_wp2_with fail
    refine (HC.out _).mono ?_
    rintro e wa ⟨rfl, hba⟩; have hza := hba.size; (try simp only [World.size_alloc, World.size_setCell, World.size_drew, World.heap_drewN] at hza); try (refine keepc hba (w.heap.size) ?_ ?_; (focus (first | omega | (simp <;> omega))); intro hca_0 hfa_0 hla_0); try (refine keepc hba (w.heap.size + 1) ?_ ?_; (focus (first | omega | (simp <;> omega))); intro hca_1 hfa_1 hla_1); try (refine keepc hba (w.heap.size + 1 + 1) ?_ ?_; (focus (first | omega | (simp <;> omega))); intro hca_2 hfa_2 hla_2)
    go_wp2_with fail
    refine bodyPost_ret (v := .tuple #[.agg #[.bool false, .slice none 0 0], .bool false]) (by simp [results, Try.results39, go_sem, hca_2, hla_2]) rfl ⟨_, _, _, rfl, Own.nil _ _, (by repeat' (first | (with_reducible exact Below.refl _ _) | (with_reducible assumption) | (with_reducible refine Below.alloc ?_ ?_ _) | (with_reducible refine Below.setCell ?_ ?_ _) | (with_reducible refine Below.drew ?_) | (with_reducible refine below_drewN ?_ _) | (apply bthen2; (with_reducible assumption)) | go_size))⟩
  cases gR : ratB n1 xs n2 ys
  · rw [nb_1 numP gR]
    rw [gC] at HC; rw [gR] at HR
    clear gC gR hx hy
    go_enter Try.func39, Try.ntmps39
    go_wp2_with fail
    refine (HC.out _).mono ?_
    rintro e wa ⟨rfl, hba⟩; have hza := hba.size; (try simp only [World.size_alloc, World.size_setCell, World.size_drew, World.heap_drewN] at hza); try (refine keepc hba (w.heap.size) ?_ ?_; (focus (first | omega | (simp <;> omega))); intro hca_0 hfa_0 hla_0); try (refine keepc hba (w.heap.size + 1) ?_ ?_; (focus (first | omega | (simp <;> omega))); intro hca_1 hfa_1 hla_1); try (refine keepc hba (w.heap.size + 1 + 1) ?_ ?_; (focus (first | omega | (simp <;> omega))); intro hca_2 hfa_2 hla_2)
    go_wp2_with fail
    refine (HR.out _ ?_ ?_).mono ?_
    · refine Ints.below HX.out ?_; repeat' (first | (with_reducible exact Below.refl _ _) | (with_reducible assumption) | (with_reducible refine Below.alloc ?_ ?_ _) | (with_reducible refine Below.setCell ?_ ?_ _) | (with_reducible refine Below.drew ?_) | (with_reducible refine below_drewN ?_ _) | (apply bthen2; (with_reducible assumption)) | go_size)
    · refine Ints.below HY.out ?_; repeat' (first | (with_reducible exact Below.refl _ _) | (with_reducible assumption) | (with_reducible refine Below.alloc ?_ ?_ _) | (with_reducible refine Below.setCell ?_ ?_ _) | (with_reducible refine Below.drew ?_) | (with_reducible refine below_drewN ?_ _) | (apply bthen2; (with_reducible assumption)) | go_size)
    rintro e wb ⟨rfl, hbb⟩; have hzb := hbb.size; (try simp only [World.size_alloc, World.size_setCell, World.size_drew, World.heap_drewN] at hzb); try (refine keepc hbb (w.heap.size) ?_ ?_; (focus (first | omega | (simp <;> omega))); intro hcb_0 hfb_0 hlb_0); try (refine keepc hbb (w.heap.size + 1) ?_ ?_; (focus (first | omega | (simp <;> omega))); intro hcb_1 hfb_1 hlb_1); try (refine keepc hbb (w.heap.size + 1 + 1) ?_ ?_; (focus (first | omega | (simp <;> omega))); intro hcb_2 hfb_2 hlb_2)
    go_wp2_with fail
    refine bodyPost_ret (v := .tuple #[.agg #[.bool false, .slice none 0 0], .bool false]) (by simp [results, Try.results39, go_sem, hcb_2, hlb_2, hca_2, hla_2]) rfl ⟨_, _, _, rfl, Own.nil _ _, (by repeat' (first | (with_reducible exact Below.refl _ _) | (with_reducible assumption) | (with_reducible refine Below.alloc ?_ ?_ _) | (with_reducible refine Below.setCell ?_ ?_ _) | (with_reducible refine Below.drew ?_) | (with_reducible refine below_drewN ?_ _) | (apply bthen2; (with_reducible assumption)) | go_size))⟩
  rw [gC] at HC; rw [gR] at HR
  obtain ⟨r1, r2⟩ := isC_rng gC
  obtain ⟨x, z, rfl, rfl, rfl, rfl, k1, k2, -⟩ := ratB_z gR
  have HN := Lib.hid (fun W h h' => numeratorOf_any A B x z r1 r2 a1 a2 l1 c1 l2 c2 W h h' k1 k2)
  by_cases hl : (dg (numP A B x z).natAbs).length ≤ 400
  · rw [nb_2 numP gC gR hl]
    have HT := Lib.hid (fun a l c W h => wholeResult_t (decide (numP A B x z < 0)) a l c (dg (numP A B x z).natAbs) W h hl)
    unfold GivesZ at HN
    clear gC gR hl r1 r2 k1 k2 hx hy
    generalize dg (numP A B x z).natAbs = D at *
    generalize decide (numP A B x z < 0) = n at *
    generalize dg x.natAbs = Dx at *
    generalize dg z.natAbs = Dz at *
    generalize decide (x < 0) = nx at *
    generalize decide (z < 0) = nz at *
    go_enter Try.func39, Try.ntmps39
    go_wp2_with fail
    refine (HC.out _).mono ?_
    rintro e wa ⟨rfl, hba⟩; have hza := hba.size; (try simp only [World.size_alloc, World.size_setCell, World.size_drew, World.heap_drewN] at hza); try (refine keepc hba (w.heap.size) ?_ ?_; (focus (first | omega | (simp <;> omega))); intro hca_0 hfa_0 hla_0); try (refine keepc hba (w.heap.size + 1) ?_ ?_; (focus (first | omega | (simp <;> omega))); intro hca_1 hfa_1 hla_1); try (refine keepc hba (w.heap.size + 1 + 1) ?_ ?_; (focus (first | omega | (simp <;> omega))); intro hca_2 hfa_2 hla_2)
    go_wp2_with fail
    refine (HR.out _ ?_ ?_).mono ?_
    · refine Ints.below HX.out ?_; repeat' (first | (with_reducible exact Below.refl _ _) | (with_reducible assumption) | (with_reducible refine Below.alloc ?_ ?_ _) | (with_reducible refine Below.setCell ?_ ?_ _) | (with_reducible refine Below.drew ?_) | (with_reducible refine below_drewN ?_ _) | (apply bthen2; (with_reducible assumption)) | go_size)
    · refine Ints.below HY.out ?_; repeat' (first | (with_reducible exact Below.refl _ _) | (with_reducible assumption) | (with_reducible refine Below.alloc ?_ ?_ _) | (with_reducible refine Below.setCell ?_ ?_ _) | (with_reducible refine Below.drew ?_) | (with_reducible refine below_drewN ?_ _) | (apply bthen2; (with_reducible assumption)) | go_size)
    rintro e wb ⟨rfl, hbb⟩; have hzb := hbb.size; (try simp only [World.size_alloc, World.size_setCell, World.size_drew, World.heap_drewN] at hzb); try (refine keepc hbb (w.heap.size) ?_ ?_; (focus (first | omega | (simp <;> omega))); intro hcb_0 hfb_0 hlb_0); try (refine keepc hbb (w.heap.size + 1) ?_ ?_; (focus (first | omega | (simp <;> omega))); intro hcb_1 hfb_1 hlb_1); try (refine keepc hbb (w.heap.size + 1 + 1) ?_ ?_; (focus (first | omega | (simp <;> omega))); intro hcb_2 hfb_2 hlb_2)
    go_wp2_with fail
    refine (HN.out _ ?_ ?_).mono ?_
    · refine Ints.below HX.out ?_; repeat' (first | (with_reducible exact Below.refl _ _) | (with_reducible assumption) | (with_reducible refine Below.alloc ?_ ?_ _) | (with_reducible refine Below.setCell ?_ ?_ _) | (with_reducible refine Below.drew ?_) | (with_reducible refine below_drewN ?_ _) | (apply bthen2; (with_reducible assumption)) | go_size)
    · refine Ints.below HY.out ?_; repeat' (first | (with_reducible exact Below.refl _ _) | (with_reducible assumption) | (with_reducible refine Below.alloc ?_ ?_ _) | (with_reducible refine Below.setCell ?_ ?_ _) | (with_reducible refine Below.drew ?_) | (with_reducible refine below_drewN ?_ _) | (apply bthen2; (with_reducible assumption)) | go_size)
    rintro e wc ⟨a3, l3, c3, rfl, ho, hbc⟩
    have hzc := hbc.size; (try simp only [World.size_alloc, World.size_setCell, World.size_drew, World.heap_drewN] at hzc); try (refine keepc hbc (w.heap.size) ?_ ?_; (focus (first | omega | (simp <;> omega))); intro hcc_0 hfc_0 hlc_0); try (refine keepc hbc (w.heap.size + 1) ?_ ?_; (focus (first | omega | (simp <;> omega))); intro hcc_1 hfc_1 hlc_1); try (refine keepc hbc (w.heap.size + 1 + 1) ?_ ?_; (focus (first | omega | (simp <;> omega))); intro hcc_2 hfc_2 hlc_2)
    go_wp2_with fail
    refine (HT.out _ _ _ _ ?_).mono ?_
    · refine Ints.below ho.ints ?_; repeat' (first | (with_reducible exact Below.refl _ _) | (with_reducible assumption) | (with_reducible refine Below.alloc ?_ ?_ _) | (with_reducible refine Below.setCell ?_ ?_ _) | (with_reducible refine Below.drew ?_) | (with_reducible refine below_drewN ?_ _) | (apply bthen2; (with_reducible assumption)) | go_size)
    rintro e wd ⟨rfl, hbd⟩
    have hzd := hbd.size; (try simp only [World.size_alloc, World.size_setCell, World.size_drew, World.heap_drewN] at hzd); try (refine keepc hbd (w.heap.size) ?_ ?_; (focus (first | omega | (simp <;> omega))); intro hcd_0 hfd_0 hld_0); try (refine keepc hbd (w.heap.size + 1) ?_ ?_; (focus (first | omega | (simp <;> omega))); intro hcd_1 hfd_1 hld_1); try (refine keepc hbd (w.heap.size + 1 + 1) ?_ ?_; (focus (first | omega | (simp <;> omega))); intro hcd_2 hfd_2 hld_2)
    go_wp2_with fail
    have ho2 := ho.below hbd
    have hk2 : w.heap.size + 1 + 1 < wb.heap.size := hlb_2
    refine bodyPost_ret (v := .tuple #[.agg #[.bool n, .slice a3 l3 c3], .bool true]) (by simp [results, Try.results39, go_sem, hcd_2, hld_2, hcc_2, hlc_2, hcb_2, hlb_2, hca_2, hla_2]) rfl ⟨_, _, _, rfl, ((ho2.set (p := ⟨w.heap.size + 1 + 1, 0, none⟩) (by show w.heap.size + 1 + 1 < wb.heap.size; omega) _).set (p := ⟨w.heap.size + 1 + 1, 1, none⟩) (by show w.heap.size + 1 + 1 < wb.heap.size; omega) _).mono (by omega), (by repeat' (first | (with_reducible exact Below.refl _ _) | (with_reducible assumption) | (with_reducible refine Below.alloc ?_ ?_ _) | (with_reducible refine Below.setCell ?_ ?_ _) | (with_reducible refine Below.drew ?_) | (with_reducible refine below_drewN ?_ _) | (apply bthen2; (with_reducible assumption)) | go_size))⟩
  · rw [nb_3 numP gC gR hl]
    have HT := Lib.hid (fun a l c W h => wholeResult_f (decide (numP A B x z < 0)) a l c (dg (numP A B x z).natAbs) W h hl)
    unfold GivesZ at HN
    clear gC gR hl r1 r2 k1 k2 hx hy
    generalize dg (numP A B x z).natAbs = D at *
    generalize decide (numP A B x z < 0) = n at *
    generalize dg x.natAbs = Dx at *
    generalize dg z.natAbs = Dz at *
    generalize decide (x < 0) = nx at *
    generalize decide (z < 0) = nz at *
    go_enter Try.func39, Try.ntmps39
    go_wp2_with fail
    refine (HC.out _).mono ?_
    rintro e wa ⟨rfl, hba⟩; have hza := hba.size; (try simp only [World.size_alloc, World.size_setCell, World.size_drew, World.heap_drewN] at hza); try (refine keepc hba (w.heap.size) ?_ ?_; (focus (first | omega | (simp <;> omega))); intro hca_0 hfa_0 hla_0); try (refine keepc hba (w.heap.size + 1) ?_ ?_; (focus (first | omega | (simp <;> omega))); intro hca_1 hfa_1 hla_1); try (refine keepc hba (w.heap.size + 1 + 1) ?_ ?_; (focus (first | omega | (simp <;> omega))); intro hca_2 hfa_2 hla_2)
    go_wp2_with fail
    refine (HR.out _ ?_ ?_).mono ?_
    · refine Ints.below HX.out ?_; repeat' (first | (with_reducible exact Below.refl _ _) | (with_reducible assumption) | (with_reducible refine Below.alloc ?_ ?_ _) | (with_reducible refine Below.setCell ?_ ?_ _) | (with_reducible refine Below.drew ?_) | (with_reducible refine below_drewN ?_ _) | (apply bthen2; (with_reducible assumption)) | go_size)
    · refine Ints.below HY.out ?_; repeat' (first | (with_reducible exact Below.refl _ _) | (with_reducible assumption) | (with_reducible refine Below.alloc ?_ ?_ _) | (with_reducible refine Below.setCell ?_ ?_ _) | (with_reducible refine Below.drew ?_) | (with_reducible refine below_drewN ?_ _) | (apply bthen2; (with_reducible assumption)) | go_size)
    rintro e wb ⟨rfl, hbb⟩; have hzb := hbb.size; (try simp only [World.size_alloc, World.size_setCell, World.size_drew, World.heap_drewN] at hzb); try (refine keepc hbb (w.heap.size) ?_ ?_; (focus (first | omega | (simp <;> omega))); intro hcb_0 hfb_0 hlb_0); try (refine keepc hbb (w.heap.size + 1) ?_ ?_; (focus (first | omega | (simp <;> omega))); intro hcb_1 hfb_1 hlb_1); try (refine keepc hbb (w.heap.size + 1 + 1) ?_ ?_; (focus (first | omega | (simp <;> omega))); intro hcb_2 hfb_2 hlb_2)
    go_wp2_with fail
    refine (HN.out _ ?_ ?_).mono ?_
    · refine Ints.below HX.out ?_; repeat' (first | (with_reducible exact Below.refl _ _) | (with_reducible assumption) | (with_reducible refine Below.alloc ?_ ?_ _) | (with_reducible refine Below.setCell ?_ ?_ _) | (with_reducible refine Below.drew ?_) | (with_reducible refine below_drewN ?_ _) | (apply bthen2; (with_reducible assumption)) | go_size)
    · refine Ints.below HY.out ?_; repeat' (first | (with_reducible exact Below.refl _ _) | (with_reducible assumption) | (with_reducible refine Below.alloc ?_ ?_ _) | (with_reducible refine Below.setCell ?_ ?_ _) | (with_reducible refine Below.drew ?_) | (with_reducible refine below_drewN ?_ _) | (apply bthen2; (with_reducible assumption)) | go_size)
    rintro e wc ⟨a3, l3, c3, rfl, ho, hbc⟩
    have hzc := hbc.size; (try simp only [World.size_alloc, World.size_setCell, World.size_drew, World.heap_drewN] at hzc); try (refine keepc hbc (w.heap.size) ?_ ?_; (focus (first | omega | (simp <;> omega))); intro hcc_0 hfc_0 hlc_0); try (refine keepc hbc (w.heap.size + 1) ?_ ?_; (focus (first | omega | (simp <;> omega))); intro hcc_1 hfc_1 hlc_1); try (refine keepc hbc (w.heap.size + 1 + 1) ?_ ?_; (focus (first | omega | (simp <;> omega))); intro hcc_2 hfc_2 hlc_2)
    go_wp2_with fail
    refine (HT.out _ _ _ _ ?_).mono ?_
    · refine Ints.below ho.ints ?_; repeat' (first | (with_reducible exact Below.refl _ _) | (with_reducible assumption) | (with_reducible refine Below.alloc ?_ ?_ _) | (with_reducible refine Below.setCell ?_ ?_ _) | (with_reducible refine Below.drew ?_) | (with_reducible refine below_drewN ?_ _) | (apply bthen2; (with_reducible assumption)) | go_size)
    rintro e wd ⟨rfl, hbd⟩
    have hzd := hbd.size; (try simp only [World.size_alloc, World.size_setCell, World.size_drew, World.heap_drewN] at hzd); try (refine keepc hbd (w.heap.size) ?_ ?_; (focus (first | omega | (simp <;> omega))); intro hcd_0 hfd_0 hld_0); try (refine keepc hbd (w.heap.size + 1) ?_ ?_; (focus (first | omega | (simp <;> omega))); intro hcd_1 hfd_1 hld_1); try (refine keepc hbd (w.heap.size + 1 + 1) ?_ ?_; (focus (first | omega | (simp <;> omega))); intro hcd_2 hfd_2 hld_2)
    go_wp2_with fail
    refine bodyPost_ret (v := .tuple #[.agg #[.bool false, .slice none 0 0], .bool false]) (by simp [results, Try.results39, go_sem, hcd_2, hld_2, hcc_2, hlc_2, hcb_2, hlb_2, hca_2, hla_2]) rfl ⟨_, _, _, rfl, Own.nil _ _, (by repeat' (first | (with_reducible exact Below.refl _ _) | (with_reducible assumption) | (with_reducible refine Below.alloc ?_ ?_ _) | (with_reducible refine Below.setCell ?_ ?_ _) | (with_reducible refine Below.drew ?_) | (with_reducible refine below_drewN ?_ _) | (apply bthen2; (with_reducible assumption)) | go_size))⟩

set_option maxRecDepth 100000 in
set_option maxHeartbeats 2000000 in
theorem sNumeratorBefore_any (A B : Int) (n1 n2 : Bool) (a1 a2 : Option Addr) (l1 l2 c1 c2 : Nat) (xs ys : List Int) (w : World) (hx : Ints w (.slice a1 l1 c1) xs) (hy : Ints w (.slice a2 l2 c2) ys) : Calls Try.prog 38 #[.agg #[.int .i64 A, .int .i64 B], .agg #[.bool n1, .slice a1 l1 c1, .bool n2, .slice a2 l2 c2]] w (GivesWB (nbV numP A B n1 xs n2 ys).1 (nbV numP A B n1 xs n2 ys).2.1 (nbV numP A B n1 xs n2 ys).2.2 w) := by
  have HA := Lib.hid (fun W h h' => xdAsked_any A B n1 n2 a1 a2 l1 l2 c1 c2 xs ys W h h')
  have HX := Lib.hid hx; have HY := Lib.hid hy
  cases gC : isC A B
  · rw [nb_0 numP gC]
    rw [gC, Bool.false_and] at HA
    clear gC hx hy
    go_enter Try.func38, Try.ntmps38
    go_wp2_with fail
    refine (HA.out _ ?_ ?_).mono ?_
    · refine Ints.below HX.out ?_; repeat' (first | (with_reducible exact Below.refl _ _) | (with_reducible assumption) | (with_reducible refine Below.alloc ?_ ?_ _) | (with_reducible refine Below.setCell ?_ ?_ _) | (with_reducible refine Below.drew ?_) | (with_reducible refine below_drewN ?_ _) | (apply bthen2; (with_reducible assumption)) | go_size)
    · refine Ints.below HY.out ?_; repeat' (first | (with_reducible exact Below.refl _ _) | (with_reducible assumption) | (with_reducible refine Below.alloc ?_ ?_ _) | (with_reducible refine Below.setCell ?_ ?_ _) | (with_reducible refine Below.drew ?_) | (with_reducible refine below_drewN ?_ _) | (apply bthen2; (with_reducible assumption)) | go_size)
    rintro e wb ⟨rfl, hbb⟩; have hzb := hbb.size; (try simp only [World.size_alloc, World.size_setCell, World.size_drew, World.heap_drewN] at hzb); try (refine keepc hbb (w.heap.size) ?_ ?_; (focus (first | omega | (simp <;> omega))); intro hcb_0 hfb_0 hlb_0); try (refine keepc hbb (w.heap.size + 1) ?_ ?_; (focus (first | omega | (simp <;> omega))); intro hcb_1 hfb_1 hlb_1); try (refine keepc hbb (w.heap.size + 1 + 1) ?_ ?_; (focus (first | omega | (simp <;> omega))); intro hcb_2 hfb_2 hlb_2)
    go_wp2_with fail
    refine bodyPost_ret (v := .tuple #[.agg #[.bool false, .slice none 0 0], .bool false]) (by simp [results, Try.results38, go_sem, hcb_2, hlb_2]) rfl ⟨_, _, _, rfl, Own.nil _ _, (by repeat' (first | (with_reducible exact Below.refl _ _) | (with_reducible assumption) | (with_reducible refine Below.alloc ?_ ?_ _) | (with_reducible refine Below.setCell ?_ ?_ _) | (with_reducible refine Below.drew ?_) | (with_reducible refine below_drewN ?_ _) | (apply bthen2; (with_reducible assumption)) | go_size))⟩
  cases gR : ratB n1 xs n2 ys
  · rw [nb_1 numP gR]
    rw [gR, Bool.and_false] at HA
    clear gC gR hx hy
    go_enter Try.func38, Try.ntmps38
    go_wp2_with fail
    refine (HA.out _ ?_ ?_).mono ?_
    · refine Ints.below HX.out ?_; repeat' (first | (with_reducible exact Below.refl _ _) | (with_reducible assumption) | (with_reducible refine Below.alloc ?_ ?_ _) | (with_reducible refine Below.setCell ?_ ?_ _) | (with_reducible refine Below.drew ?_) | (with_reducible refine below_drewN ?_ _) | (apply bthen2; (with_reducible assumption)) | go_size)
    · refine Ints.below HY.out ?_; repeat' (first | (with_reducible exact Below.refl _ _) | (with_reducible assumption) | (with_reducible refine Below.alloc ?_ ?_ _) | (with_reducible refine Below.setCell ?_ ?_ _) | (with_reducible refine Below.drew ?_) | (with_reducible refine below_drewN ?_ _) | (apply bthen2; (with_reducible assumption)) | go_size)
    rintro e wb ⟨rfl, hbb⟩; have hzb := hbb.size; (try simp only [World.size_alloc, World.size_setCell, World.size_drew, World.heap_drewN] at hzb); try (refine keepc hbb (w.heap.size) ?_ ?_; (focus (first | omega | (simp <;> omega))); intro hcb_0 hfb_0 hlb_0); try (refine keepc hbb (w.heap.size + 1) ?_ ?_; (focus (first | omega | (simp <;> omega))); intro hcb_1 hfb_1 hlb_1); try (refine keepc hbb (w.heap.size + 1 + 1) ?_ ?_; (focus (first | omega | (simp <;> omega))); intro hcb_2 hfb_2 hlb_2)
    go_wp2_with fail
    refine bodyPost_ret (v := .tuple #[.agg #[.bool false, .slice none 0 0], .bool false]) (by simp [results, Try.results38, go_sem, hcb_2, hlb_2]) rfl ⟨_, _, _, rfl, Own.nil _ _, (by repeat' (first | (with_reducible exact Below.refl _ _) | (with_reducible assumption) | (with_reducible refine Below.alloc ?_ ?_ _) | (with_reducible refine Below.setCell ?_ ?_ _) | (with_reducible refine Below.drew ?_) | (with_reducible refine below_drewN ?_ _) | (apply bthen2; (with_reducible assumption)) | go_size))⟩
  rw [gC, gR, Bool.and_true] at HA
  obtain ⟨r1, r2⟩ := isC_rng gC
  obtain ⟨x, z, rfl, rfl, rfl, rfl, k1, k2, -⟩ := ratB_z gR
  have HN := Lib.hid (fun W h h' => xdTop_any A B x z r1 r2 a1 a2 l1 c1 l2 c2 W h h' k1 k2)
  by_cases hl : (dg (numP A B x z).natAbs).length ≤ 400
  · rw [nb_2 numP gC gR hl]
    have HT := Lib.hid (fun a l c W h => bgIf_t (decide (numP A B x z < 0)) a l c (dg (numP A B x z).natAbs) W h (by rw [whB_len]; simp [hl]))
    unfold GivesZ at HN
    clear gC gR hl r1 r2 k1 k2 hx hy
    generalize dg (numP A B x z).natAbs = D at *
    generalize decide (numP A B x z < 0) = n at *
    generalize dg x.natAbs = Dx at *
    generalize dg z.natAbs = Dz at *
    generalize decide (x < 0) = nx at *
    generalize decide (z < 0) = nz at *
    go_enter Try.func38, Try.ntmps38
    go_wp2_with fail
    refine (HA.out _ ?_ ?_).mono ?_
    · refine Ints.below HX.out ?_; repeat' (first | (with_reducible exact Below.refl _ _) | (with_reducible assumption) | (with_reducible refine Below.alloc ?_ ?_ _) | (with_reducible refine Below.setCell ?_ ?_ _) | (with_reducible refine Below.drew ?_) | (with_reducible refine below_drewN ?_ _) | (apply bthen2; (with_reducible assumption)) | go_size)
    · refine Ints.below HY.out ?_; repeat' (first | (with_reducible exact Below.refl _ _) | (with_reducible assumption) | (with_reducible refine Below.alloc ?_ ?_ _) | (with_reducible refine Below.setCell ?_ ?_ _) | (with_reducible refine Below.drew ?_) | (with_reducible refine below_drewN ?_ _) | (apply bthen2; (with_reducible assumption)) | go_size)
    rintro e wb ⟨rfl, hbb⟩; have hzb := hbb.size; (try simp only [World.size_alloc, World.size_setCell, World.size_drew, World.heap_drewN] at hzb); try (refine keepc hbb (w.heap.size) ?_ ?_; (focus (first | omega | (simp <;> omega))); intro hcb_0 hfb_0 hlb_0); try (refine keepc hbb (w.heap.size + 1) ?_ ?_; (focus (first | omega | (simp <;> omega))); intro hcb_1 hfb_1 hlb_1); try (refine keepc hbb (w.heap.size + 1 + 1) ?_ ?_; (focus (first | omega | (simp <;> omega))); intro hcb_2 hfb_2 hlb_2)
    go_wp2_with fail
    refine (HN.out _ ?_ ?_).mono ?_
    · refine Ints.below HX.out ?_; repeat' (first | (with_reducible exact Below.refl _ _) | (with_reducible assumption) | (with_reducible refine Below.alloc ?_ ?_ _) | (with_reducible refine Below.setCell ?_ ?_ _) | (with_reducible refine Below.drew ?_) | (with_reducible refine below_drewN ?_ _) | (apply bthen2; (with_reducible assumption)) | go_size)
    · refine Ints.below HY.out ?_; repeat' (first | (with_reducible exact Below.refl _ _) | (with_reducible assumption) | (with_reducible refine Below.alloc ?_ ?_ _) | (with_reducible refine Below.setCell ?_ ?_ _) | (with_reducible refine Below.drew ?_) | (with_reducible refine below_drewN ?_ _) | (apply bthen2; (with_reducible assumption)) | go_size)
    rintro e wc ⟨a3, l3, c3, rfl, ho, hbc⟩
    have hzc := hbc.size; (try simp only [World.size_alloc, World.size_setCell, World.size_drew, World.heap_drewN] at hzc); try (refine keepc hbc (w.heap.size) ?_ ?_; (focus (first | omega | (simp <;> omega))); intro hcc_0 hfc_0 hlc_0); try (refine keepc hbc (w.heap.size + 1) ?_ ?_; (focus (first | omega | (simp <;> omega))); intro hcc_1 hfc_1 hlc_1); try (refine keepc hbc (w.heap.size + 1 + 1) ?_ ?_; (focus (first | omega | (simp <;> omega))); intro hcc_2 hfc_2 hlc_2)
    go_wp2_with fail
    refine (HT.out _ _ _ _ ?_).mono ?_
    · refine Ints.below ho.ints ?_; repeat' (first | (with_reducible exact Below.refl _ _) | (with_reducible assumption) | (with_reducible refine Below.alloc ?_ ?_ _) | (with_reducible refine Below.setCell ?_ ?_ _) | (with_reducible refine Below.drew ?_) | (with_reducible refine below_drewN ?_ _) | (apply bthen2; (with_reducible assumption)) | go_size)
    rintro e wd ⟨rfl, hbd⟩
    have hzd := hbd.size; (try simp only [World.size_alloc, World.size_setCell, World.size_drew, World.heap_drewN] at hzd); try (refine keepc hbd (w.heap.size) ?_ ?_; (focus (first | omega | (simp <;> omega))); intro hcd_0 hfd_0 hld_0); try (refine keepc hbd (w.heap.size + 1) ?_ ?_; (focus (first | omega | (simp <;> omega))); intro hcd_1 hfd_1 hld_1); try (refine keepc hbd (w.heap.size + 1 + 1) ?_ ?_; (focus (first | omega | (simp <;> omega))); intro hcd_2 hfd_2 hld_2)
    go_wp2_with fail
    have ho2 := ho.below hbd
    have hk2 : w.heap.size + 1 + 1 < wb.heap.size := hlb_2
    refine bodyPost_ret (v := .tuple #[.agg #[.bool n, .slice a3 l3 c3], .bool true]) (by simp [results, Try.results38, go_sem, hcd_2, hld_2, hcc_2, hlc_2, hcb_2, hlb_2]) rfl ⟨_, _, _, rfl, ((ho2.set (p := ⟨w.heap.size + 1 + 1, 0, none⟩) (by show w.heap.size + 1 + 1 < wb.heap.size; omega) _).set (p := ⟨w.heap.size + 1 + 1, 1, none⟩) (by show w.heap.size + 1 + 1 < wb.heap.size; omega) _).mono (by omega), (by repeat' (first | (with_reducible exact Below.refl _ _) | (with_reducible assumption) | (with_reducible refine Below.alloc ?_ ?_ _) | (with_reducible refine Below.setCell ?_ ?_ _) | (with_reducible refine Below.drew ?_) | (with_reducible refine below_drewN ?_ _) | (apply bthen2; (with_reducible assumption)) | go_size))⟩
  · rw [nb_3 numP gC gR hl]
    have HT := Lib.hid (fun a l c W h => bgIf_f (decide (numP A B x z < 0)) a l c (dg (numP A B x z).natAbs) W h (by rw [whB_len]; simp [hl]))
    unfold GivesZ at HN
    clear gC gR hl r1 r2 k1 k2 hx hy
    generalize dg (numP A B x z).natAbs = D at *
    generalize decide (numP A B x z < 0) = n at *
    generalize dg x.natAbs = Dx at *
    generalize dg z.natAbs = Dz at *
    generalize decide (x < 0) = nx at *
    generalize decide (z < 0) = nz at *
    go_enter Try.func38, Try.ntmps38
    go_wp2_with fail
    refine (HA.out _ ?_ ?_).mono ?_
    · refine Ints.below HX.out ?_; repeat' (first | (with_reducible exact Below.refl _ _) | (with_reducible assumption) | (with_reducible refine Below.alloc ?_ ?_ _) | (with_reducible refine Below.setCell ?_ ?_ _) | (with_reducible refine Below.drew ?_) | (with_reducible refine below_drewN ?_ _) | (apply bthen2; (with_reducible assumption)) | go_size)
    · refine Ints.below HY.out ?_; repeat' (first | (with_reducible exact Below.refl _ _) | (with_reducible assumption) | (with_reducible refine Below.alloc ?_ ?_ _) | (with_reducible refine Below.setCell ?_ ?_ _) | (with_reducible refine Below.drew ?_) | (with_reducible refine below_drewN ?_ _) | (apply bthen2; (with_reducible assumption)) | go_size)
    rintro e wb ⟨rfl, hbb⟩; have hzb := hbb.size; (try simp only [World.size_alloc, World.size_setCell, World.size_drew, World.heap_drewN] at hzb); try (refine keepc hbb (w.heap.size) ?_ ?_; (focus (first | omega | (simp <;> omega))); intro hcb_0 hfb_0 hlb_0); try (refine keepc hbb (w.heap.size + 1) ?_ ?_; (focus (first | omega | (simp <;> omega))); intro hcb_1 hfb_1 hlb_1); try (refine keepc hbb (w.heap.size + 1 + 1) ?_ ?_; (focus (first | omega | (simp <;> omega))); intro hcb_2 hfb_2 hlb_2)
    go_wp2_with fail
    refine (HN.out _ ?_ ?_).mono ?_
    · refine Ints.below HX.out ?_; repeat' (first | (with_reducible exact Below.refl _ _) | (with_reducible assumption) | (with_reducible refine Below.alloc ?_ ?_ _) | (with_reducible refine Below.setCell ?_ ?_ _) | (with_reducible refine Below.drew ?_) | (with_reducible refine below_drewN ?_ _) | (apply bthen2; (with_reducible assumption)) | go_size)
    · refine Ints.below HY.out ?_; repeat' (first | (with_reducible exact Below.refl _ _) | (with_reducible assumption) | (with_reducible refine Below.alloc ?_ ?_ _) | (with_reducible refine Below.setCell ?_ ?_ _) | (with_reducible refine Below.drew ?_) | (with_reducible refine below_drewN ?_ _) | (apply bthen2; (with_reducible assumption)) | go_size)
    rintro e wc ⟨a3, l3, c3, rfl, ho, hbc⟩
    have hzc := hbc.size; (try simp only [World.size_alloc, World.size_setCell, World.size_drew, World.heap_drewN] at hzc); try (refine keepc hbc (w.heap.size) ?_ ?_; (focus (first | omega | (simp <;> omega))); intro hcc_0 hfc_0 hlc_0); try (refine keepc hbc (w.heap.size + 1) ?_ ?_; (focus (first | omega | (simp <;> omega))); intro hcc_1 hfc_1 hlc_1); try (refine keepc hbc (w.heap.size + 1 + 1) ?_ ?_; (focus (first | omega | (simp <;> omega))); intro hcc_2 hfc_2 hlc_2)
    go_wp2_with fail
    refine (HT.out _ _ _ _ ?_).mono ?_
    · refine Ints.below ho.ints ?_; repeat' (first | (with_reducible exact Below.refl _ _) | (with_reducible assumption) | (with_reducible refine Below.alloc ?_ ?_ _) | (with_reducible refine Below.setCell ?_ ?_ _) | (with_reducible refine Below.drew ?_) | (with_reducible refine below_drewN ?_ _) | (apply bthen2; (with_reducible assumption)) | go_size)
    rintro e wd ⟨rfl, hbd⟩
    have hzd := hbd.size; (try simp only [World.size_alloc, World.size_setCell, World.size_drew, World.heap_drewN] at hzd); try (refine keepc hbd (w.heap.size) ?_ ?_; (focus (first | omega | (simp <;> omega))); intro hcd_0 hfd_0 hld_0); try (refine keepc hbd (w.heap.size + 1) ?_ ?_; (focus (first | omega | (simp <;> omega))); intro hcd_1 hfd_1 hld_1); try (refine keepc hbd (w.heap.size + 1 + 1) ?_ ?_; (focus (first | omega | (simp <;> omega))); intro hcd_2 hfd_2 hld_2)
    go_wp2_with fail
    refine bodyPost_ret (v := .tuple #[.agg #[.bool false, .slice none 0 0], .bool false]) (by simp [results, Try.results38, go_sem, hcd_2, hld_2, hcc_2, hlc_2, hcb_2, hlb_2]) rfl ⟨_, _, _, rfl, Own.nil _ _, (by repeat' (first | (with_reducible exact Below.refl _ _) | (with_reducible assumption) | (with_reducible refine Below.alloc ?_ ?_ _) | (with_reducible refine Below.setCell ?_ ?_ _) | (with_reducible refine Below.drew ?_) | (with_reducible refine below_drewN ?_ _) | (apply bthen2; (with_reducible assumption)) | go_size))⟩

end Go.Proofs.Ytopdeoicglkbkaa
