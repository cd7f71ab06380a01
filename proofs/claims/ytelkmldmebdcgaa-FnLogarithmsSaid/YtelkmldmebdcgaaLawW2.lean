import Derived.Test.YtelkmldmebdcgaaLawW
import Derived.Test.YtelkmldmebdcgaaBits
set_option linter.unusedSimpArgs false
set_option linter.unusedVariables false
namespace Go.Proofs.Ytelkmldmebdcgaa
open Go.RowKit

theorem bl_lt (n : Nat) : n < 2 ^ bl n := by
  induction n using Nat.strongRecOn with
  | ind n ih =>
    by_cases h : n = 0
    · subst h; decide
    · rw [bl_half h, Nat.pow_add]
      have := ih (n / 2) (by omega)
      omega
theorem bl_mono {n m : Nat} (h : n ≤ m) : bl n ≤ bl m := bl_le (Nat.lt_of_le_of_lt h (bl_lt m))
theorem bl_max (n m : Nat) : bl (max n m) = max (bl n) (bl m) := by
  rcases Nat.le_total n m with h | h
  · have := bl_mono h; rw [Nat.max_eq_right h, Nat.max_eq_right this]
  · have := bl_mono h; rw [Nat.max_eq_left h, Nat.max_eq_left this]
def hbV (n1 : Bool) (xs : List Int) (n2 : Bool) (ys : List Int) : Value := if (whB n1 xs && whB n2 ys && !(xs.length + ys.length == 0)) = true then .tuple #[.int .i64 (bl (max (val xs) (val ys)).toNat : Nat), .bool true] else .tuple #[.int .i64 0, .bool false]
theorem hb_0 {n1 n2 : Bool} {xs ys : List Int} (h : whB n1 xs = false) : hbV n1 xs n2 ys = .tuple #[.int .i64 0, .bool false] := by unfold hbV; rw [h]; rfl
theorem hb_1 {n1 n2 : Bool} {xs ys : List Int} (h : whB n2 ys = false) : hbV n1 xs n2 ys = .tuple #[.int .i64 0, .bool false] := by unfold hbV; rw [h, Bool.and_false]; rfl
theorem hb_2 {n1 n2 : Bool} {xs ys : List Int} (h : xs.length + ys.length = 0) : hbV n1 xs n2 ys = .tuple #[.int .i64 0, .bool false] := by unfold hbV; rw [h]; simp
theorem hb_3 {n1 n2 : Bool} {xs ys : List Int} (h1 : whB n1 xs = true) (h2 : whB n2 ys = true) (h : ¬ xs.length + ys.length = 0) : hbV n1 xs n2 ys = .tuple #[.int .i64 (bl (max (val xs) (val ys)).toNat : Nat), .bool true] := by
  unfold hbV
  rw [if_pos]
  rw [h1, h2]
  simpa using h
set_option maxHeartbeats 1000000 in
theorem HeightBits_any (n1 n2 : Bool) (a a2 : Option Addr) (len cap len2 cap2 : Nat) (xs ys : List Int) (w : World) (hx : Ints w (.slice a len cap) xs) (hy : Ints w (.slice a2 len2 cap2) ys) :
    Calls Try.prog 44 #[.agg #[.bool n1, .slice a len cap], .agg #[.bool n2, .slice a2 len2 cap2]] w (Gives (hbV n1 xs n2 ys) w) := by
  have H1 := Lib.hid (fun W h => isWhole_any n1 a len cap xs W h)
  have H2 := Lib.hid (fun W h => isWhole_any n2 a2 len2 cap2 ys W h)
  have HX := Lib.hid hx; have HY := Lib.hid hy
  obtain ⟨lx, lx2, -⟩ := hx.cell
  obtain ⟨ly, ly2, -⟩ := hy.cell
  clear hx hy
  cases g1 : whB n1 xs
  · rw [hb_0 g1]
    rw [g1] at H1
    clear H2 lx ly
    go_enter Try.func44, Try.ntmps44
    go_wp2_with fail
    refine (H1.out _ ?_).mono ?_
    · refine Ints.below HX.out ?_; repeat' (first | (with_reducible exact Below.refl _ _) | (with_reducible assumption) | (with_reducible refine Below.alloc ?_ ?_ _) | (with_reducible refine Below.setCell ?_ ?_ _) | (with_reducible refine Below.drew ?_) | (with_reducible refine below_drewN ?_ _) | (apply bthen2; (with_reducible assumption)) | go_size)
    rintro e wa ⟨rfl, hba⟩; have hza := hba.size; (try simp only [World.size_alloc, World.size_setCell, World.size_drew, World.heap_drewN] at hza); try (refine keepc hba (w.heap.size) ?_ ?_; (focus (first | omega | (simp <;> omega))); intro hca_0 hfa_0 hla_0); try (refine keepc hba (w.heap.size + 1) ?_ ?_; (focus (first | omega | (simp <;> omega))); intro hca_1 hfa_1 hla_1); try (refine keepc hba (w.heap.size + 1 + 1) ?_ ?_; (focus (first | omega | (simp <;> omega))); intro hca_2 hfa_2 hla_2)
    go_wp2
    go_ret2
    exact gives rfl (by repeat' (first | (with_reducible exact Below.refl _ _) | (with_reducible assumption) | (with_reducible refine Below.alloc ?_ ?_ _) | (with_reducible refine Below.setCell ?_ ?_ _) | (with_reducible refine Below.drew ?_) | (with_reducible refine below_drewN ?_ _) | (apply bthen2; (with_reducible assumption)) | go_size))
  cases g2 : whB n2 ys
  · rw [hb_1 g2]
    rw [g1] at H1; rw [g2] at H2
    clear lx ly
    go_enter Try.func44, Try.ntmps44
    go_wp2_with fail
    refine (H1.out _ ?_).mono ?_
    · refine Ints.below HX.out ?_; repeat' (first | (with_reducible exact Below.refl _ _) | (with_reducible assumption) | (with_reducible refine Below.alloc ?_ ?_ _) | (with_reducible refine Below.setCell ?_ ?_ _) | (with_reducible refine Below.drew ?_) | (with_reducible refine below_drewN ?_ _) | (apply bthen2; (with_reducible assumption)) | go_size)
    rintro e wa ⟨rfl, hba⟩; have hza := hba.size; (try simp only [World.size_alloc, World.size_setCell, World.size_drew, World.heap_drewN] at hza); try (refine keepc hba (w.heap.size) ?_ ?_; (focus (first | omega | (simp <;> omega))); intro hca_0 hfa_0 hla_0); try (refine keepc hba (w.heap.size + 1) ?_ ?_; (focus (first | omega | (simp <;> omega))); intro hca_1 hfa_1 hla_1); try (refine keepc hba (w.heap.size + 1 + 1) ?_ ?_; (focus (first | omega | (simp <;> omega))); intro hca_2 hfa_2 hla_2)
    go_wp2_with fail
    refine (H2.out _ ?_).mono ?_
    · refine Ints.below HY.out ?_; repeat' (first | (with_reducible exact Below.refl _ _) | (with_reducible assumption) | (with_reducible refine Below.alloc ?_ ?_ _) | (with_reducible refine Below.setCell ?_ ?_ _) | (with_reducible refine Below.drew ?_) | (with_reducible refine below_drewN ?_ _) | (apply bthen2; (with_reducible assumption)) | go_size)
    rintro e wb ⟨rfl, hbb⟩; have hzb := hbb.size; (try simp only [World.size_alloc, World.size_setCell, World.size_drew, World.heap_drewN] at hzb); try (refine keepc hbb (w.heap.size) ?_ ?_; (focus (first | omega | (simp <;> omega))); intro hcb_0 hfb_0 hlb_0); try (refine keepc hbb (w.heap.size + 1) ?_ ?_; (focus (first | omega | (simp <;> omega))); intro hcb_1 hfb_1 hlb_1); try (refine keepc hbb (w.heap.size + 1 + 1) ?_ ?_; (focus (first | omega | (simp <;> omega))); intro hcb_2 hfb_2 hlb_2)
    go_wp2
    go_ret2
    exact gives rfl (by repeat' (first | (with_reducible exact Below.refl _ _) | (with_reducible assumption) | (with_reducible refine Below.alloc ?_ ?_ _) | (with_reducible refine Below.setCell ?_ ?_ _) | (with_reducible refine Below.drew ?_) | (with_reducible refine below_drewN ?_ _) | (apply bthen2; (with_reducible assumption)) | go_size))
  obtain ⟨rx, kx, -⟩ := whB_can g1
  obtain ⟨ry, ky, -⟩ := whB_can g2
  by_cases g3 : len + len2 = 0
  · rw [hb_2 (by omega)]
    rw [g1] at H1; rw [g2] at H2
    have h3 : (len : Int) + (len2 : Int) = 0 := by omega
    clear lx ly rx ry kx ky g3
    go_enter Try.func44, Try.ntmps44
    go_wp2_with fail
    refine (H1.out _ ?_).mono ?_
    · refine Ints.below HX.out ?_; repeat' (first | (with_reducible exact Below.refl _ _) | (with_reducible assumption) | (with_reducible refine Below.alloc ?_ ?_ _) | (with_reducible refine Below.setCell ?_ ?_ _) | (with_reducible refine Below.drew ?_) | (with_reducible refine below_drewN ?_ _) | (apply bthen2; (with_reducible assumption)) | go_size)
    rintro e wa ⟨rfl, hba⟩; have hza := hba.size; (try simp only [World.size_alloc, World.size_setCell, World.size_drew, World.heap_drewN] at hza); try (refine keepc hba (w.heap.size) ?_ ?_; (focus (first | omega | (simp <;> omega))); intro hca_0 hfa_0 hla_0); try (refine keepc hba (w.heap.size + 1) ?_ ?_; (focus (first | omega | (simp <;> omega))); intro hca_1 hfa_1 hla_1); try (refine keepc hba (w.heap.size + 1 + 1) ?_ ?_; (focus (first | omega | (simp <;> omega))); intro hca_2 hfa_2 hla_2)
    go_wp2_with fail
    refine (H2.out _ ?_).mono ?_
    · refine Ints.below HY.out ?_; repeat' (first | (with_reducible exact Below.refl _ _) | (with_reducible assumption) | (with_reducible refine Below.alloc ?_ ?_ _) | (with_reducible refine Below.setCell ?_ ?_ _) | (with_reducible refine Below.drew ?_) | (with_reducible refine below_drewN ?_ _) | (apply bthen2; (with_reducible assumption)) | go_size)
    rintro e wb ⟨rfl, hbb⟩; have hzb := hbb.size; (try simp only [World.size_alloc, World.size_setCell, World.size_drew, World.heap_drewN] at hzb); try (refine keepc hbb (w.heap.size) ?_ ?_; (focus (first | omega | (simp <;> omega))); intro hcb_0 hfb_0 hlb_0); try (refine keepc hbb (w.heap.size + 1) ?_ ?_; (focus (first | omega | (simp <;> omega))); intro hcb_1 hfb_1 hlb_1); try (refine keepc hbb (w.heap.size + 1 + 1) ?_ ?_; (focus (first | omega | (simp <;> omega))); intro hcb_2 hfb_2 hlb_2)
    go_wp2
    go_ret2
    exact gives rfl (by repeat' (first | (with_reducible exact Below.refl _ _) | (with_reducible assumption) | (with_reducible refine Below.alloc ?_ ?_ _) | (with_reducible refine Below.setCell ?_ ?_ _) | (with_reducible refine Below.drew ?_) | (with_reducible refine below_drewN ?_ _) | (apply bthen2; (with_reducible assumption)) | go_size))
  rw [hb_3 g1 g2 (by omega)]
  rw [g1] at H1; rw [g2] at H2
  obtain ⟨S, hS⟩ : ∃ S : Int, (len : Int) + (len2 : Int) = S := ⟨_, rfl⟩
  have h3 : 0 < S := by omega
  have h3b : S ≤ 800 := by omega
  have B1 := Lib.hid (fun W h => bitLength_any n1 a len cap xs W h rx.1 (by omega))
  have B2 := Lib.hid (fun W h => bitLength_any n2 a2 len2 cap2 ys W h ry.1 (by omega))
  have hv1 := val_nonneg rx.1
  have hv2 := val_nonneg ry.1
  have hmx : bl (max (val xs) (val ys)).toNat = max (bl (val xs).toNat) (bl (val ys).toNat) := by rw [← bl_max]; congr 1; omega
  rw [hmx]
  generalize bl (val xs).toNat = P at *
  generalize bl (val ys).toNat = Q at *
  rw [show ((max P Q : Nat) : Int) = max (P : Int) (Q : Int) by omega]
  clear lx ly rx ry kx ky g3 hmx hv1 hv2 g1 g2
  go_enter Try.func44, Try.ntmps44
  go_wp2_with fail
  refine (H1.out _ ?_).mono ?_
  · refine Ints.below HX.out ?_; repeat' (first | (with_reducible exact Below.refl _ _) | (with_reducible assumption) | (with_reducible refine Below.alloc ?_ ?_ _) | (with_reducible refine Below.setCell ?_ ?_ _) | (with_reducible refine Below.drew ?_) | (with_reducible refine below_drewN ?_ _) | (apply bthen2; (with_reducible assumption)) | go_size)
  rintro e wa ⟨rfl, hba⟩; have hza := hba.size; (try simp only [World.size_alloc, World.size_setCell, World.size_drew, World.heap_drewN] at hza); try (refine keepc hba (w.heap.size) ?_ ?_; (focus (first | omega | (simp <;> omega))); intro hca_0 hfa_0 hla_0); try (refine keepc hba (w.heap.size + 1) ?_ ?_; (focus (first | omega | (simp <;> omega))); intro hca_1 hfa_1 hla_1); try (refine keepc hba (w.heap.size + 1 + 1) ?_ ?_; (focus (first | omega | (simp <;> omega))); intro hca_2 hfa_2 hla_2)
  go_wp2_with fail
  refine (H2.out _ ?_).mono ?_
  · refine Ints.below HY.out ?_; repeat' (first | (with_reducible exact Below.refl _ _) | (with_reducible assumption) | (with_reducible refine Below.alloc ?_ ?_ _) | (with_reducible refine Below.setCell ?_ ?_ _) | (with_reducible refine Below.drew ?_) | (with_reducible refine below_drewN ?_ _) | (apply bthen2; (with_reducible assumption)) | go_size)
  rintro e wb ⟨rfl, hbb⟩; have hzb := hbb.size; (try simp only [World.size_alloc, World.size_setCell, World.size_drew, World.heap_drewN] at hzb); try (refine keepc hbb (w.heap.size) ?_ ?_; (focus (first | omega | (simp <;> omega))); intro hcb_0 hfb_0 hlb_0); try (refine keepc hbb (w.heap.size + 1) ?_ ?_; (focus (first | omega | (simp <;> omega))); intro hcb_1 hfb_1 hlb_1); try (refine keepc hbb (w.heap.size + 1 + 1) ?_ ?_; (focus (first | omega | (simp <;> omega))); intro hcb_2 hfb_2 hlb_2)
  go_upto_region 3 with fail
  have z0 : wb.cell? ⟨w.heap.size, 0, none⟩ = some (.bool n1) := by simp [hcb_0, hca_0, hla_0, hlb_0, go_sem]
  have z1 : wb.cell? ⟨w.heap.size, 1, none⟩ = some (.slice a len cap) := by simp [hcb_0, hca_0, hla_0, hlb_0, go_sem]
  have z2 : wb.cell? ⟨w.heap.size + 1, 0, none⟩ = some (.bool n2) := by simp [hcb_1, hca_1, hla_1, hlb_1, go_sem]
  have z3 : wb.cell? ⟨w.heap.size + 1, 1, none⟩ = some (.slice a2 len2 cap2) := by simp [hcb_1, hca_1, hla_1, hlb_1, go_sem]
  have gx := Ints.below HX.out (w' := wb) (by repeat' (first | (with_reducible exact Below.refl _ _) | (with_reducible assumption) | (with_reducible refine Below.alloc ?_ ?_ _) | (with_reducible refine Below.setCell ?_ ?_ _) | (with_reducible refine Below.drew ?_) | (with_reducible refine below_drewN ?_ _) | (apply bthen2; (with_reducible assumption)) | go_size))
  have gy := Ints.below HY.out (w' := wb) (by repeat' (first | (with_reducible exact Below.refl _ _) | (with_reducible assumption) | (with_reducible refine Below.alloc ?_ ?_ _) | (with_reducible refine Below.setCell ?_ ?_ _) | (with_reducible refine Below.drew ?_) | (with_reducible refine below_drewN ?_ _) | (apply bthen2; (with_reducible assumption)) | go_size))
  have hB : Below w.heap.size w wb := (by repeat' (first | (with_reducible exact Below.refl _ _) | (with_reducible assumption) | (with_reducible refine Below.alloc ?_ ?_ _) | (with_reducible refine Below.setCell ?_ ?_ _) | (with_reducible refine Below.drew ?_) | (with_reducible refine below_drewN ?_ _) | (apply bthen2; (with_reducible assumption)) | go_size))
  have hs0 : w.heap.size < wb.heap.size := hlb_0
  have hs1 : w.heap.size + 1 < wb.heap.size := hlb_1
  clear hca_0 hfa_0 hla_0 hca_1 hfa_1 hla_1 hcb_0 hfb_0 hlb_0 hcb_1 hfb_1 hlb_1 hba hbb hza hzb H1 H2
  go_region_held3 (fun w' => Below wb.heap.size wb w' ∧ w'.cell? ⟨w.heap.size, 0, none⟩ = some (.bool n1) ∧ w'.cell? ⟨w.heap.size, 1, none⟩ = some (.slice a len cap) ∧ w'.cell? ⟨w.heap.size + 1, 0, none⟩ = some (.bool n2) ∧ w'.cell? ⟨w.heap.size + 1, 1, none⟩ = some (.slice a2 len2 cap2)) ((refine (fun hbK => And.intro hbK (by exact ⟨(hbK.cell (p := ⟨w.heap.size, 0, none⟩) (by first | assumption | omega | (simp; omega))).trans z0, (hbK.cell (p := ⟨w.heap.size, 1, none⟩) (by first | assumption | omega | (simp; omega))).trans z1, (hbK.cell (p := ⟨w.heap.size + 1, 0, none⟩) (by first | assumption | omega | (simp; omega))).trans z2, (hbK.cell (p := ⟨w.heap.size + 1, 1, none⟩) (by first | assumption | omega | (simp; omega))).trans z3⟩)) ?_; repeat' (first | (with_reducible exact Below.refl _ _) | (with_reducible assumption) | (with_reducible refine Below.alloc ?_ ?_ _) | (with_reducible refine Below.setCell ?_ ?_ _) | (with_reducible refine Below.drew ?_) | (with_reducible refine below_drewN ?_ _) | (apply bthen2; (with_reducible assumption)) | go_size))) ((first | (go_at_call_of 90 (Value.slice a len cap); refine (B1.out _ ?_).mono ?_; (focus (refine Ints.below gx ?_; repeat' (first | (with_reducible exact Below.refl _ _) | (with_reducible assumption) | (with_reducible refine Below.alloc ?_ ?_ _) | (with_reducible refine Below.setCell ?_ ?_ _) | (with_reducible refine Below.drew ?_) | (with_reducible refine below_drewN ?_ _) | (apply bthen2; (with_reducible assumption)) | go_size))); rintro e wf ⟨rfl, hb5⟩) | (go_at_call_of 90 (Value.slice a2 len2 cap2); refine (B2.out _ ?_).mono ?_; (focus (refine Ints.below gy ?_; repeat' (first | (with_reducible exact Below.refl _ _) | (with_reducible assumption) | (with_reducible refine Below.alloc ?_ ?_ _) | (with_reducible refine Below.setCell ?_ ?_ _) | (with_reducible refine Below.drew ?_) | (with_reducible refine below_drewN ?_ _) | (apply bthen2; (with_reducible assumption)) | go_size))); rintro e wg ⟨rfl, hb6⟩)))
  all_goals (go_wp2; go_ret2; exact gives rfl (by repeat' (first | (with_reducible exact Below.refl _ _) | (with_reducible assumption) | (with_reducible refine Below.alloc ?_ ?_ _) | (with_reducible refine Below.setCell ?_ ?_ _) | (with_reducible refine Below.drew ?_) | (with_reducible refine below_drewN ?_ _) | (apply bthen2; (with_reducible assumption)) | go_size)))
set_option maxHeartbeats 1000000 in
theorem sHeightBits_any (n1 n2 : Bool) (a a2 : Option Addr) (len cap len2 cap2 : Nat) (xs ys : List Int) (w : World) (hx : Ints w (.slice a len cap) xs) (hy : Ints w (.slice a2 len2 cap2) ys) :
    Calls Try.prog 45 #[.agg #[.bool n1, .slice a len cap], .agg #[.bool n2, .slice a2 len2 cap2]] w (Gives (hbV n1 xs n2 ys) w) := by
  have H1 := Lib.hid (fun W h => bgGood_any n1 a len cap xs W h)
  have H2 := Lib.hid (fun W h => bgGood_any n2 a2 len2 cap2 ys W h)
  have HX := Lib.hid hx; have HY := Lib.hid hy
  obtain ⟨lx, lx2, -⟩ := hx.cell
  obtain ⟨ly, ly2, -⟩ := hy.cell
  clear hx hy
  cases g1 : whB n1 xs
  · rw [hb_0 g1]
    rw [g1] at H1
    clear H2 lx ly
    go_enter Try.func45, Try.ntmps45
    go_wp2_with fail
    refine (H1.out _ ?_).mono ?_
    · refine Ints.below HX.out ?_; repeat' (first | (with_reducible exact Below.refl _ _) | (with_reducible assumption) | (with_reducible refine Below.alloc ?_ ?_ _) | (with_reducible refine Below.setCell ?_ ?_ _) | (with_reducible refine Below.drew ?_) | (with_reducible refine below_drewN ?_ _) | (apply bthen2; (with_reducible assumption)) | go_size)
    rintro e wa ⟨rfl, hba⟩; have hza := hba.size; (try simp only [World.size_alloc, World.size_setCell, World.size_drew, World.heap_drewN] at hza); try (refine keepc hba (w.heap.size) ?_ ?_; (focus (first | omega | (simp <;> omega))); intro hca_0 hfa_0 hla_0); try (refine keepc hba (w.heap.size + 1) ?_ ?_; (focus (first | omega | (simp <;> omega))); intro hca_1 hfa_1 hla_1); try (refine keepc hba (w.heap.size + 1 + 1) ?_ ?_; (focus (first | omega | (simp <;> omega))); intro hca_2 hfa_2 hla_2)
    go_wp2
    go_ret2
    exact gives rfl (by repeat' (first | (with_reducible exact Below.refl _ _) | (with_reducible assumption) | (with_reducible refine Below.alloc ?_ ?_ _) | (with_reducible refine Below.setCell ?_ ?_ _) | (with_reducible refine Below.drew ?_) | (with_reducible refine below_drewN ?_ _) | (apply bthen2; (with_reducible assumption)) | go_size))
  cases g2 : whB n2 ys
  · rw [hb_1 g2]
    rw [g1] at H1; rw [g2] at H2
    clear lx ly
    go_enter Try.func45, Try.ntmps45
    go_wp2_with fail
    refine (H1.out _ ?_).mono ?_
    · refine Ints.below HX.out ?_; repeat' (first | (with_reducible exact Below.refl _ _) | (with_reducible assumption) | (with_reducible refine Below.alloc ?_ ?_ _) | (with_reducible refine Below.setCell ?_ ?_ _) | (with_reducible refine Below.drew ?_) | (with_reducible refine below_drewN ?_ _) | (apply bthen2; (with_reducible assumption)) | go_size)
    rintro e wa ⟨rfl, hba⟩; have hza := hba.size; (try simp only [World.size_alloc, World.size_setCell, World.size_drew, World.heap_drewN] at hza); try (refine keepc hba (w.heap.size) ?_ ?_; (focus (first | omega | (simp <;> omega))); intro hca_0 hfa_0 hla_0); try (refine keepc hba (w.heap.size + 1) ?_ ?_; (focus (first | omega | (simp <;> omega))); intro hca_1 hfa_1 hla_1); try (refine keepc hba (w.heap.size + 1 + 1) ?_ ?_; (focus (first | omega | (simp <;> omega))); intro hca_2 hfa_2 hla_2)
    go_wp2_with fail
    refine (H2.out _ ?_).mono ?_
    · refine Ints.below HY.out ?_; repeat' (first | (with_reducible exact Below.refl _ _) | (with_reducible assumption) | (with_reducible refine Below.alloc ?_ ?_ _) | (with_reducible refine Below.setCell ?_ ?_ _) | (with_reducible refine Below.drew ?_) | (with_reducible refine below_drewN ?_ _) | (apply bthen2; (with_reducible assumption)) | go_size)
    rintro e wb ⟨rfl, hbb⟩; have hzb := hbb.size; (try simp only [World.size_alloc, World.size_setCell, World.size_drew, World.heap_drewN] at hzb); try (refine keepc hbb (w.heap.size) ?_ ?_; (focus (first | omega | (simp <;> omega))); intro hcb_0 hfb_0 hlb_0); try (refine keepc hbb (w.heap.size + 1) ?_ ?_; (focus (first | omega | (simp <;> omega))); intro hcb_1 hfb_1 hlb_1); try (refine keepc hbb (w.heap.size + 1 + 1) ?_ ?_; (focus (first | omega | (simp <;> omega))); intro hcb_2 hfb_2 hlb_2)
    go_wp2
    go_ret2
    exact gives rfl (by repeat' (first | (with_reducible exact Below.refl _ _) | (with_reducible assumption) | (with_reducible refine Below.alloc ?_ ?_ _) | (with_reducible refine Below.setCell ?_ ?_ _) | (with_reducible refine Below.drew ?_) | (with_reducible refine below_drewN ?_ _) | (apply bthen2; (with_reducible assumption)) | go_size))
  obtain ⟨rx, kx, -⟩ := whB_can g1
  obtain ⟨ry, ky, -⟩ := whB_can g2
  by_cases g3 : len + len2 = 0
  · rw [hb_2 (by omega)]
    rw [g1] at H1; rw [g2] at H2
    have h3 : (len : Int) + (len2 : Int) = 0 := by omega
    clear lx ly rx ry kx ky g3
    go_enter Try.func45, Try.ntmps45
    go_wp2_with fail
    refine (H1.out _ ?_).mono ?_
    · refine Ints.below HX.out ?_; repeat' (first | (with_reducible exact Below.refl _ _) | (with_reducible assumption) | (with_reducible refine Below.alloc ?_ ?_ _) | (with_reducible refine Below.setCell ?_ ?_ _) | (with_reducible refine Below.drew ?_) | (with_reducible refine below_drewN ?_ _) | (apply bthen2; (with_reducible assumption)) | go_size)
    rintro e wa ⟨rfl, hba⟩; have hza := hba.size; (try simp only [World.size_alloc, World.size_setCell, World.size_drew, World.heap_drewN] at hza); try (refine keepc hba (w.heap.size) ?_ ?_; (focus (first | omega | (simp <;> omega))); intro hca_0 hfa_0 hla_0); try (refine keepc hba (w.heap.size + 1) ?_ ?_; (focus (first | omega | (simp <;> omega))); intro hca_1 hfa_1 hla_1); try (refine keepc hba (w.heap.size + 1 + 1) ?_ ?_; (focus (first | omega | (simp <;> omega))); intro hca_2 hfa_2 hla_2)
    go_wp2_with fail
    refine (H2.out _ ?_).mono ?_
    · refine Ints.below HY.out ?_; repeat' (first | (with_reducible exact Below.refl _ _) | (with_reducible assumption) | (with_reducible refine Below.alloc ?_ ?_ _) | (with_reducible refine Below.setCell ?_ ?_ _) | (with_reducible refine Below.drew ?_) | (with_reducible refine below_drewN ?_ _) | (apply bthen2; (with_reducible assumption)) | go_size)
    rintro e wb ⟨rfl, hbb⟩; have hzb := hbb.size; (try simp only [World.size_alloc, World.size_setCell, World.size_drew, World.heap_drewN] at hzb); try (refine keepc hbb (w.heap.size) ?_ ?_; (focus (first | omega | (simp <;> omega))); intro hcb_0 hfb_0 hlb_0); try (refine keepc hbb (w.heap.size + 1) ?_ ?_; (focus (first | omega | (simp <;> omega))); intro hcb_1 hfb_1 hlb_1); try (refine keepc hbb (w.heap.size + 1 + 1) ?_ ?_; (focus (first | omega | (simp <;> omega))); intro hcb_2 hfb_2 hlb_2)
    go_wp2
    go_ret2
    exact gives rfl (by repeat' (first | (with_reducible exact Below.refl _ _) | (with_reducible assumption) | (with_reducible refine Below.alloc ?_ ?_ _) | (with_reducible refine Below.setCell ?_ ?_ _) | (with_reducible refine Below.drew ?_) | (with_reducible refine below_drewN ?_ _) | (apply bthen2; (with_reducible assumption)) | go_size))
  rw [hb_3 g1 g2 (by omega)]
  rw [g1] at H1; rw [g2] at H2
  obtain ⟨S, hS⟩ : ∃ S : Int, (len : Int) + (len2 : Int) = S := ⟨_, rfl⟩
  have h3 : 0 < S := by omega
  have h3b : S ≤ 800 := by omega
  have HB := Lib.hid (fun W h h' => htBits_any n1 n2 a a2 len cap len2 cap2 xs ys W h h' rx ry (by omega) (by omega))
  generalize bl (max (val xs) (val ys)).toNat = R at *
  clear lx ly rx ry kx ky g3 g1 g2
  go_enter Try.func45, Try.ntmps45
  go_wp2_with fail
  refine (H1.out _ ?_).mono ?_
  · refine Ints.below HX.out ?_; repeat' (first | (with_reducible exact Below.refl _ _) | (with_reducible assumption) | (with_reducible refine Below.alloc ?_ ?_ _) | (with_reducible refine Below.setCell ?_ ?_ _) | (with_reducible refine Below.drew ?_) | (with_reducible refine below_drewN ?_ _) | (apply bthen2; (with_reducible assumption)) | go_size)
  rintro e wa ⟨rfl, hba⟩; have hza := hba.size; (try simp only [World.size_alloc, World.size_setCell, World.size_drew, World.heap_drewN] at hza); try (refine keepc hba (w.heap.size) ?_ ?_; (focus (first | omega | (simp <;> omega))); intro hca_0 hfa_0 hla_0); try (refine keepc hba (w.heap.size + 1) ?_ ?_; (focus (first | omega | (simp <;> omega))); intro hca_1 hfa_1 hla_1); try (refine keepc hba (w.heap.size + 1 + 1) ?_ ?_; (focus (first | omega | (simp <;> omega))); intro hca_2 hfa_2 hla_2)
  go_wp2_with fail
  refine (H2.out _ ?_).mono ?_
  · refine Ints.below HY.out ?_; repeat' (first | (with_reducible exact Below.refl _ _) | (with_reducible assumption) | (with_reducible refine Below.alloc ?_ ?_ _) | (with_reducible refine Below.setCell ?_ ?_ _) | (with_reducible refine Below.drew ?_) | (with_reducible refine below_drewN ?_ _) | (apply bthen2; (with_reducible assumption)) | go_size)
  rintro e wb ⟨rfl, hbb⟩; have hzb := hbb.size; (try simp only [World.size_alloc, World.size_setCell, World.size_drew, World.heap_drewN] at hzb); try (refine keepc hbb (w.heap.size) ?_ ?_; (focus (first | omega | (simp <;> omega))); intro hcb_0 hfb_0 hlb_0); try (refine keepc hbb (w.heap.size + 1) ?_ ?_; (focus (first | omega | (simp <;> omega))); intro hcb_1 hfb_1 hlb_1); try (refine keepc hbb (w.heap.size + 1 + 1) ?_ ?_; (focus (first | omega | (simp <;> omega))); intro hcb_2 hfb_2 hlb_2)
  go_wp2_with fail
  refine (HB.out _ ?_ ?_).mono ?_
  · refine Ints.below HX.out ?_; repeat' (first | (with_reducible exact Below.refl _ _) | (with_reducible assumption) | (with_reducible refine Below.alloc ?_ ?_ _) | (with_reducible refine Below.setCell ?_ ?_ _) | (with_reducible refine Below.drew ?_) | (with_reducible refine below_drewN ?_ _) | (apply bthen2; (with_reducible assumption)) | go_size)
  · refine Ints.below HY.out ?_; repeat' (first | (with_reducible exact Below.refl _ _) | (with_reducible assumption) | (with_reducible refine Below.alloc ?_ ?_ _) | (with_reducible refine Below.setCell ?_ ?_ _) | (with_reducible refine Below.drew ?_) | (with_reducible refine below_drewN ?_ _) | (apply bthen2; (with_reducible assumption)) | go_size)
  rintro e wc ⟨rfl, hbc⟩; have hzc := hbc.size; (try simp only [World.size_alloc, World.size_setCell, World.size_drew, World.heap_drewN] at hzc); try (refine keepc hbc (w.heap.size) ?_ ?_; (focus (first | omega | (simp <;> omega))); intro hcc_0 hfc_0 hlc_0); try (refine keepc hbc (w.heap.size + 1) ?_ ?_; (focus (first | omega | (simp <;> omega))); intro hcc_1 hfc_1 hlc_1); try (refine keepc hbc (w.heap.size + 1 + 1) ?_ ?_; (focus (first | omega | (simp <;> omega))); intro hcc_2 hfc_2 hlc_2)
  go_wp2
  go_ret2
  exact gives rfl (by repeat' (first | (with_reducible exact Below.refl _ _) | (with_reducible assumption) | (with_reducible refine Below.alloc ?_ ?_ _) | (with_reducible refine Below.setCell ?_ ?_ _) | (with_reducible refine Below.drew ?_) | (with_reducible refine below_drewN ?_ _) | (apply bthen2; (with_reducible assumption)) | go_size))

end Go.Proofs.Ytelkmldmebdcgaa
