import Derived.Test.YtiafgfnefhcabaaLawW
import Derived.Test.YtiafgfnefhcabaaBits
set_option linter.unusedSimpArgs false
set_option linter.unusedVariables false
namespace Go.Proofs.Ytiafgfnefhcabaa
open Go.RowKit

theorem bl_lt (n : Nat) : n < 2 ^ bl n := by
  induction n using Nat.strongRecOn with
  | ind n ih =>
    by_cases h : n = 0
    · subst h; decide
    · rw [bl_half h, Nat.pow_add]
      have := ih (n / 2) (by omega)
      omega
theorem bl_mono {n m : Nat} (h : n ≤ m) : bl n ≤ bl m := bl_le (Nat.lt_of_le_of_lt h (bl_lt m))
theorem bl_max (n m : Nat) : bl (max n m) = max (bl n) (bl m) := by
  rcases Nat.le_total n m with h | h
  · have := bl_mono h; rw [Nat.max_eq_right h, Nat.max_eq_right this]
  · have := bl_mono h; rw [Nat.max_eq_left h, Nat.max_eq_left this]
def hbV (n1 : Bool) (xs : List Int) (n2 : Bool) (ys : List Int) : Value := if (whB n1 xs && whB n2 ys && !(xs.length + ys.length == 0)) = true then .tuple #[.int .i64 (bl (max (val xs) (val ys)).toNat : Nat), .bool true] else .tuple #[.int .i64 0, .bool false]
theorem hb_0 {n1 n2 : Bool} {xs ys : List Int} (h : whB n1 xs = false) : hbV n1 xs n2 ys = .tuple #[.int .i64 0, .bool false] := by unfold hbV; rw [h]; rfl
theorem hb_1 {n1 n2 : Bool} {xs ys : List Int} (h : whB n2 ys = false) : hbV n1 xs n2 ys = .tuple #[.int .i64 0, .bool false] := by unfold hbV; rw [h, Bool.and_false]; rfl
theorem hb_2 {n1 n2 : Bool} {xs ys : List Int} (h : xs.length + ys.length = 0) : hbV n1 xs n2 ys = .tuple #[.int .i64 0, .bool false] := by unfold hbV; rw [h]; simp
theorem hb_3 {n1 n2 : Bool} {xs ys : List Int} (h1 : whB n1 xs = true) (h2 : whB n2 ys = true) (h : ¬ xs.length + ys.length = 0) : hbV n1 xs n2 ys = .tuple #[.int .i64 (bl (max (val xs) (val ys)).toNat : Nat), .bool true] := by
  unfold hbV
  rw [if_pos]
  rw [h1, h2]
  simpa using h
set_option maxHeartbeats 1000000 in
theorem HeightBits_any (n1 n2 : Bool) (a a2 : Option Addr) (len cap len2 cap2 : Nat) (xs ys : List Int) (w : World) (hx : Ints w (.slice a len cap) xs) (hy : Ints w (.slice a2 len2 cap2) ys) :
    Calls Try.prog 58 #[.agg #[.bool n1, .slice a len cap], .agg #[.bool n2, .slice a2 len2 cap2]] w (Gives (hbV n1 xs n2 ys) w) := by
  have H1 := Lib.hid (fun W h => isWhole_any n1 a len cap xs W h)
  have H2 := Lib.hid (fun W h => isWhole_any n2 a2 len2 cap2 ys W h)
  have HX := Lib.hid hx; have HY := Lib.hid hy
  obtain ⟨lx, lx2, -⟩ := hx.cell
  obtain ⟨ly, ly2, -⟩ := hy.cell
  clear hx hy
  cases g1 : whB n1 xs
  · rw [hb_0 g1]
    rw [g1] at H1
    clear H2 lx ly
    go_enter Try.func58, Try.ntmps58
    go_wp2_with fail
    refine (H1.out _ ?_).mono ?_
    · refine Ints.below HX.out ?_; repeat' (first | (with_reducible exact Below.refl _ _) | (with_reducible assumption) | (with_reducible refine Below.alloc ?_ ?_ _) | (with_reducible refine Below.setCell ?_ ?_ _) | (with_reducible refine Below.drew ?_) | (with_reducible refine below_drewN ?_ _) | (apply bthen2; (with_reducible assumption)) | go_size)
    rintro e wa ⟨rfl, hba⟩; have hza := hba.size; (try simp only [World.size_alloc, World.size_setCell, World.size_drew, World.heap_drewN] at hza); try (refine keepc hba (w.heap.size) ?_ ?_; (focus (first | omega | (simp <;> omega))); intro hca_0 hfa_0 hla_0); try (refine keepc hba (w.heap.size + 1) ?_ ?_; (focus (first | omega | (simp <;> omega))); intro hca_1 hfa_1 hla_1); try (refine keepc hba (w.heap.size + 1 + 1) ?_ ?_; (focus (first | omega | (simp <;> omega))); intro hca_2 hfa_2 hla_2)
    go_wp2
    go_ret2
    exact gives rfl (by repeat' (first | (with_reducible exact Below.refl _ _) | (with_reducible assumption) | (with_reducible refine Below.alloc ?_ ?_ _) | (with_reducible refine Below.setCell ?_ ?_ _) | (with_reducible refine Below.drew ?_) | (with_reducible refine below_drewN ?_ _) | (apply bthen2; (with_reducible assumption)) | go_size))
  cases g2 : whB n2 ys
  · rw [hb_1 g2]
    rw [g1] at H1; rw [g2] at H2
    clear lx ly
    go_enter Try.func58, Try.ntmps58
    go_wp2_with fail
    refine (H1.out _ ?_).mono ?_
    · refine Ints.below HX.out ?_; repeat' (first | (with_reducible exact Below.refl _ _) | (with_reducible assumption) | (with_reducible refine Below.alloc ?_ ?_ _) | (with_reducible refine Below.setCell ?_ ?_ _) | (with_reducible refine Below.drew ?_) | (with_reducible refine below_drewN ?_ _) | (apply bthen2; (with_reducible assumption)) | go_size)
    rintro e wa ⟨rfl, hba⟩; have hza := hba.size; (try simp only [World.size_alloc, World.size_setCell, World.size_drew, World.heap_drewN] at hza); try (refine keepc hba (w.heap.size) ?_ ?_; (focus (first | omega | (simp <;> omega))); intro hca_0 hfa_0 hla_0); try (refine keepc hba (w.heap.size + 1) ?_ ?_; (focus (first | omega | (simp <;> omega))); intro hca_1 hfa_1 hla_1); try (refine keepc hba (w.heap.size + 1 + 1) ?_ ?_; (focus (first | omega | (simp <;> omega))); intro hca_2 hfa_2 hla_2)
    go_wp2_with fail
    refine (H2.out _ ?_).mono ?_
    · refine Ints.below HY.out ?_; repeat' (first | (with_reducible exact Below.refl _ _) | (with_reducible assumption) | (with_reducible refine Below.alloc ?_ ?_ _) | (with_reducible refine Below.setCell ?_ ?_ _) | (with_reducible refine Below.drew ?_) | (with_reducible refine below_drewN ?_ _) | (apply bthen2; (with_reducible assumption)) | go_size)
    rintro e wb ⟨rfl, hbb⟩; have hzb := hbb.size; (try simp only [World.size_alloc, World.size_setCell, World.size_drew, World.heap_drewN] at hzb); try (refine keepc hbb (w.heap.size) ?_ ?_; (focus (first | omega | (simp <;> omega))); intro hcb_0 hfb_0 hlb_0); try (refine keepc hbb (w.heap.size + 1) ?_ ?_; (focus (first | omega | (simp <;> omega))); intro hcb_1 hfb_1 hlb_1); try (refine keepc hbb (w.heap.size + 1 + 1) ?_ ?_; (focus (first | omega | (simp <;> omega))); intro hcb_2 hfb_2 hlb_2)
    go_wp2
    go_ret2
    exact gives rfl (by repeat' (first | (with_reducible exact Below.refl _ _) | (with_reducible assumption) | (with_reducible refine Below.alloc ?_ ?_ _) | (with_reducible refine Below.setCell ?_ ?_ _) | (with_reducible refine Below.drew ?_) | (with_reducible refine below_drewN ?_ _) | (apply bthen2; (with_reducible assumption)) | go_size))
  obtain ⟨rx, kx, -⟩ := whB_can g1
  obtain ⟨ry, ky, -⟩ := whB_can g2
  by_cases g3 : len + len2 = 0
  · rw [hb_2 (by omega)]
    rw [g1] at H1; rw [g2] at H2
    have h3 : (len : Int) + (len2 : Int) = 0 := by omega
    clear lx ly rx ry kx ky g3
    go_enter Try.func58, Try.ntmps58
    go_wp2_with fail
    refine (H1.out _ ?_).mono ?_
    · refine Ints.below HX.out ?_; repeat' (first | (with_reducible exact Below.refl _ _) | (with_reducible assumption) | (with_reducible refine Below.alloc ?_ ?_ _) | (with_reducible refine Below.setCell ?_ ?_ _) | (with_reducible refine Below.drew ?_) | (with_reducible refine below_drewN ?_ _) | (apply bthen2; (with_reducible assumption)) | go_size)
    rintro e wa ⟨rfl, hba⟩; have hza := hba.size; (try simp only [World.size_alloc, World.size_setCell, World.size_drew, World.heap_drewN] at hza); try (refine keepc hba (w.heap.size) ?_ ?_; (focus (first | omega | (simp <;> omega))); intro hca_0 hfa_0 hla_0); try (refine keepc hba (w.heap.size + 1) ?_ ?_; (focus (first | omega | (simp <;> omega))); intro hca_1 hfa_1 hla_1); try (refine keepc hba (w.heap.size + 1 + 1) ?_ ?_; (focus (first | omega | (simp <;> omega))); intro hca_2 hfa_2 hla_2)
    go_wp2_with fail
    refine (H2.out _ ?_).mono ?_
    · refine Ints.below HY.out ?_; repeat' (first | (with_reducible exact Below.refl _ _) | (with_reducible assumption) | (with_reducible refine Below.alloc ?_ ?_ _) | (with_reducible refine Below.setCell ?_ ?_ _) | (with_reducible refine Below.drew ?_) | (with_reducible refine below_drewN ?_ _) | (apply bthen2; (with_reducible assumption)) | go_size)
    rintro e wb ⟨rfl, hbb⟩; have hzb := hbb.size; (try simp only [World.size_alloc, World.size_setCell, World.size_drew, World.heap_drewN] at hzb); try (refine keepc hbb (w.heap.size) ?_ ?_; (focus (first | omega | (simp <;> omega))); intro hcb_0 hfb_0 hlb_0); try (refine keepc hbb (w.heap.size + 1) ?_ ?_; (focus (first | omega | (simp <;> omega))); intro hcb_1 hfb_1 hlb_1); try (refine keepc hbb (w.heap.size + 1 + 1) ?_ ?_; (focus (first | omega | (simp <;> omega))); intro hcb_2 hfb_2 hlb_2)
    go_wp2
    go_ret2
    exact gives rfl (by repeat' (first | (with_reducible exact Below.refl _ _) | (with_reducible assumption) | (with_reducible refine Below.alloc ?_ ?_ _) | (with_reducible refine Below.setCell ?_ ?_ _) | (with_reducible refine Below.drew ?_) | (with_reducible refine below_drewN ?_ _) | (apply bthen2; (with_reducible assumption)) | go_size))
  rw [hb_3 g1 g2 (by omega)]
  rw [g1] at H1; rw [g2] at H2
  obtain ⟨S, hS⟩ : ∃ S : Int, (len : Int) + (len2 : Int) = S := ⟨_, rfl⟩
  have h3 : 0 < S := by omega
  have h3b : S ≤ 800 := by omega
  have B1 := Lib.hid (fun W h => bitLength_any n1 a len cap xs W h rx.1 (by omega))
  have B2 := Lib.hid (fun W h => bitLength_any n2 a2 len2 cap2 ys W h ry.1 (by omega))
  have hv1 := val_nonneg rx.1
  have hv2 := val_nonneg ry.1
  have hmx : bl (max (val xs) (val ys)).toNat = max (bl (val xs).toNat) (bl (val ys).toNat) := by rw [← bl_max]; congr 1; omega
  rw [hmx]
  generalize bl (val xs).toNat = P at *
  generalize bl (val ys).toNat = Q at *
  rw [show ((max P Q : Nat) : Int) = max (P : Int) (Q : Int) by omega]
  clear lx ly rx ry kx ky g3 hmx hv1 hv2 g1 g2
  go_enter Try.func58, Try.ntmps58
  go_wp2_with fail
  refine (H1.out _ ?_).mono ?_
  · refine Ints.below HX.out ?_; repeat' (first | (with_reducible exact Below.refl _ _) | (with_reducible assumption) | (with_reducible refine Below.alloc ?_ ?_ _) | (with_reducible refine Below.setCell ?_ ?_ _) | (with_reducible refine Below.drew ?_) | (with_reducible refine below_drewN ?_ _) | (apply bthen2; (with_reducible assumption)) | go_size)
  rintro e wa ⟨rfl, hba⟩; have hza := hba.size; (try simp only [World.size_alloc, World.size_setCell, World.size_drew, World.heap_drewN] at hza); try (refine keepc hba (w.heap.size) ?_ ?_; (focus (first | omega | (simp <;> omega))); intro hca_0 hfa_0 hla_0); try (refine keepc hba (w.heap.size + 1) ?_ ?_; (focus (first | omega | (simp <;> omega))); intro hca_1 hfa_1 hla_1); try (refine keepc hba (w.heap.size + 1 + 1) ?_ ?_; (focus (first | omega | (simp <;> omega))); intro hca_2 hfa_2 hla_2)
  go_wp2_with fail
  refine (H2.out _ ?_).mono ?_
  · refine Ints.below HY.out ?_; repeat' (first | (with_reducible exact Below.refl _ _) | (with_reducible assumption) | (with_reducible refine Below.alloc ?_ ?_ _) | (with_reducible refine Below.setCell ?_ ?_ _) | (with_reducible refine Below.drew ?_) | (with_reducible refine below_drewN ?_ _) | (apply bthen2; (with_reducible assumption)) | go_size)
  rintro e wb ⟨rfl, hbb⟩; have hzb := hbb.size; (try simp only [World.size_alloc, World.size_setCell, World.size_drew, World.heap_drewN] at hzb); try (refine keepc hbb (w.heap.size) ?_ ?_; (focus (first | omega | (simp <;> omega))); intro hcb_0 hfb_0 hlb_0); try (refine keepc hbb (w.heap.size + 1) ?_ ?_; (focus (first | omega | (simp <;> omega))); intro hcb_1 hfb_1 hlb_1); try (refine keepc hbb (w.heap.size + 1 + 1) ?_ ?_; (focus (first | omega | (simp <;> omega))); intro hcb_2 hfb_2 hlb_2)
  go_upto_region 3 with fail
  have z0 : wb.cell? ⟨w.heap.size, 0, none⟩ = some (.bool n1) := by simp [hcb_0, hca_0, hla_0, hlb_0, go_sem]
  have z1 : wb.cell? ⟨w.heap.size, 1, none⟩ = some (.slice a len cap) := by simp [hcb_0, hca_0, hla_0, hlb_0, go_sem]
  have z2 : wb.cell? ⟨w.heap.size + 1, 0, none⟩ = some (.bool n2) := by simp [hcb_1, hca_1, hla_1, hlb_1, go_sem]
  have z3 : wb.cell? ⟨w.heap.size + 1, 1, none⟩ = some (.slice a2 len2 cap2) := by simp [hcb_1, hca_1, hla_1, hlb_1, go_sem]
  have gx := Ints.below HX.out (w' := wb) (by repeat' (first | (with_reducible exact Below.refl _ _) | (with_reducible assumption) | (with_reducible refine Below.alloc ?_ ?_ _) | (with_reducible refine Below.setCell ?_ ?_ _) | (with_reducible refine Below.drew ?_) | (with_reducible refine below_drewN ?_ _) | (apply bthen2; (with_reducible assumption)) | go_size))
  have gy := Ints.below HY.out (w' := wb) (by repeat' (first | (with_reducible exact Below.refl _ _) | (with_reducible assumption) | (with_reducible refine Below.alloc ?_ ?_ _) | (with_reducible refine Below.setCell ?_ ?_ _) | (with_reducible refine Below.drew ?_) | (with_reducible refine below_drewN ?_ _) | (apply bthen2; (with_reducible assumption)) | go_size))
  have hB : Below w.heap.size w wb := (by repeat' (first | (with_reducible exact Below.refl _ _) | (with_reducible assumption) | (with_reducible refine Below.alloc ?_ ?_ _) | (with_reducible refine Below.setCell ?_ ?_ _) | (with_reducible refine Below.drew ?_) | (with_reducible refine below_drewN ?_ _) | (apply bthen2; (with_reducible assumption)) | go_size))
  have hs0 : w.heap.size < wb.heap.size := hlb_0
  have hs1 : w.heap.size + 1 < wb.heap.size := hlb_1
  clear hca_0 hfa_0 hla_0 hca_1 hfa_1 hla_1 hcb_0 hfb_0 hlb_0 hcb_1 hfb_1 hlb_1 hba hbb hza hzb H1 H2
  go_region_held3 (fun w' => Below wb.heap.size wb w' ∧ w'.cell? ⟨w.heap.size, 0, none⟩ = some (.bool n1) ∧ w'.cell? ⟨w.heap.size, 1, none⟩ = some (.slice a len cap) ∧ w'.cell? ⟨w.heap.size + 1, 0, none⟩ = some (.bool n2) ∧ w'.cell? ⟨w.heap.size + 1, 1, none⟩ = some (.slice a2 len2 cap2)) ((refine (fun hbK => And.intro hbK (by exact ⟨(hbK.cell (p := ⟨w.heap.size, 0, none⟩) (by first | assumption | omega | (simp; omega))).trans z0, (hbK.cell (p := ⟨w.heap.size, 1, none⟩) (by first | assumption | omega | (simp; omega))).trans z1, (hbK.cell (p := ⟨w.heap.size + 1, 0, none⟩) (by first | assumption | omega | (simp; omega))).trans z2, (hbK.cell (p := ⟨w.heap.size + 1, 1, none⟩) (by first | assumption | omega | (simp; omega))).trans z3⟩)) ?_; repeat' (first | (with_reducible exact Below.refl _ _) | (with_reducible assumption) | (with_reducible refine Below.alloc ?_ ?_ _) | (with_reducible refine Below.setCell ?_ ?_ _) | (with_reducible refine Below.drew ?_) | (with_reducible refine below_drewN ?_ _) | (apply bthen2; (with_reducible assumption)) | go_size))) ((first | (go_at_call_of 100 (Value.slice a len cap); refine (B1.out _ ?_).mono ?_; (focus (refine Ints.below gx ?_; repeat' (first | (with_reducible exact Below.refl _ _) | (with_reducible assumption) | (with_reducible refine Below.alloc ?_ ?_ _) | (with_reducible refine Below.setCell ?_ ?_ _) | (with_reducible refine Below.drew ?_) | (with_reducible refine below_drewN ?_ _) | (apply bthen2; (with_reducible assumption)) | go_size))); rintro e wf ⟨rfl, hb5⟩) | (go_at_call_of 100 (Value.slice a2 len2 cap2); refine (B2.out _ ?_).mono ?_; (focus (refine Ints.below gy ?_; repeat' (first | (with_reducible exact Below.refl _ _) | (with_reducible assumption) | (with_reducible refine Below.alloc ?_ ?_ _) | (with_reducible refine Below.setCell ?_ ?_ _) | (with_reducible refine Below.drew ?_) | (with_reducible refine below_drewN ?_ _) | (apply bthen2; (with_reducible assumption)) | go_size))); rintro e wg ⟨rfl, hb6⟩)))
  all_goals (go_wp2; go_ret2; exact gives rfl (by repeat' (first | (with_reducible exact Below.refl _ _) | (with_reducible assumption) | (with_reducible refine Below.alloc ?_ ?_ _) | (with_reducible refine Below.setCell ?_ ?_ _) | (with_reducible refine Below.drew ?_) | (with_reducible refine below_drewN ?_ _) | (apply bthen2; (with_reducible assumption)) | go_size)))
set_option maxHeartbeats 1000000 in
theorem sHeightBits_any (n1 n2 : Bool) (a a2 : Option Addr) (len cap len2 cap2 : Nat) (xs ys : List Int) (w : World) (hx : Ints w (.slice a len cap) xs) (hy : Ints w (.slice a2 len2 cap2) ys) :
    Calls Try.prog 57 #[.agg #[.bool n1, .slice a len cap], .agg #[.bool n2, .slice a2 len2 cap2]] w (Gives (hbV n1 xs n2 ys) w) := by
  have H1 := Lib.hid (fun W h => bgGood_any n1 a len cap xs W h)
  have H2 := Lib.hid (fun W h => bgGood_any n2 a2 len2 cap2 ys W h)
  have HX := Lib.hid hx; have HY := Lib.hid hy
  obtain ⟨lx, lx2, -⟩ := hx.cell
  obtain ⟨ly, ly2, -⟩ := hy.cell
  clear hx hy
  cases g1 : whB n1 xs
  · rw [hb_0 g1]
    rw [g1] at H1
    clear H2 lx ly
    go_enter Try.func57, Try.ntmps57
    go_wp2_with fail
    refine (H1.out _ ?_).mono ?_
    · refine Ints.below HX.out ?_; repeat' (first | (with_reducible exact Below.refl _ _) | (with_reducible assumption) | (with_reducible refine Below.alloc ?_ ?_ _) | (with_reducible refine Below.setCell ?_ ?_ _) | (with_reducible refine Below.drew ?_) | (with_reducible refine below_drewN ?_ _) | (apply bthen2; (with_reducible assumption)) | go_size)
    rintro e wa ⟨rfl, hba⟩; have hza := hba.size; (try simp only [World.size_alloc, World.size_setCell, World.size_drew, World.heap_drewN] at hza); try (refine keepc hba (w.heap.size) ?_ ?_; (focus (first | omega | (simp <;> omega))); intro hca_0 hfa_0 hla_0); try (refine keepc hba (w.heap.size + 1) ?_ ?_; (focus (first | omega | (simp <;> omega))); intro hca_1 hfa_1 hla_1); try (refine keepc hba (w.heap.size + 1 + 1) ?_ ?_; (focus (first | omega | (simp <;> omega))); intro hca_2 hfa_2 hla_2)
    go_wp2
    go_ret2
    exact gives rfl (by repeat' (first | (with_reducible exact Below.refl _ _) | (with_reducible assumption) | (with_reducible refine Below.alloc ?_ ?_ _) | (with_reducible refine Below.setCell ?_ ?_ _) | (with_reducible refine Below.drew ?_) | (with_reducible refine below_drewN ?_ _) | (apply bthen2; (with_reducible assumption)) | go_size))
  cases g2 : whB n2 ys
  · rw [hb_1 g2]
    rw [g1] at H1; rw [g2] at H2
    clear lx ly
    go_enter Try.func57, Try.ntmps57
    go_wp2_with fail
    refine (H1.out _ ?_).mono ?_
    · refine Ints.below HX.out ?_; repeat' (first | (with_reducible exact Below.refl _ _) | (with_reducible assumption) | (with_reducible refine Below.alloc ?_ ?_ _) | (with_reducible refine Below.setCell ?_ ?_ _) | (with_reducible refine Below.drew ?_) | (with_reducible refine below_drewN ?_ _) | (apply bthen2; (with_reducible assumption)) | go_size)
    rintro e wa ⟨rfl, hba⟩; have hza := hba.size; (try simp only [World.size_alloc, World.size_setCell, World.size_drew, World.heap_drewN] at hza); try (refine keepc hba (w.heap.size) ?_ ?_; (focus (first | omega | (simp <;> omega))); intro hca_0 hfa_0 hla_0); try (refine keepc hba (w.heap.size + 1) ?_ ?_; (focus (first | omega | (simp <;> omega))); intro hca_1 hfa_1 hla_1); try (refine keepc hba (w.heap.size + 1 + 1) ?_ ?_; (focus (first | omega | (simp <;> omega))); intro hca_2 hfa_2 hla_2)
    go_wp2_with fail
    refine (H2.out _ ?_).mono ?_
    · refine Ints.below HY.out ?_; repeat' (first | (with_reducible exact Below.refl _ _) | (with_reducible assumption) | (with_reducible refine Below.alloc ?_ ?_ _) | (with_reducible refine Below.setCell ?_ ?_ _) | (with_reducible refine Below.drew ?_) | (with_reducible refine below_drewN ?_ _) | (apply bthen2; (with_reducible assumption)) | go_size)
    rintro e wb ⟨rfl, hbb⟩; have hzb := hbb.size; (try simp only [World.size_alloc, World.size_setCell, World.size_drew, World.heap_drewN] at hzb); try (refine keepc hbb (w.heap.size) ?_ ?_; (focus (first | omega | (simp <;> omega))); intro hcb_0 hfb_0 hlb_0); try (refine keepc hbb (w.heap.size + 1) ?_ ?_; (focus (first | omega | (simp <;> omega))); intro hcb_1 hfb_1 hlb_1); try (refine keepc hbb (w.heap.size + 1 + 1) ?_ ?_; (focus (first | omega | (simp <;> omega))); intro hcb_2 hfb_2 hlb_2)
    go_wp2
    go_ret2
    exact gives rfl (by repeat' (first | (with_reducible exact Below.refl _ _) | (with_reducible assumption) | (with_reducible refine Below.alloc ?_ ?_ _) | (with_reducible refine Below.setCell ?_ ?_ _) | (with_reducible refine Below.drew ?_) | (with_reducible refine below_drewN ?_ _) | (apply bthen2; (with_reducible assumption)) | go_size))
  obtain ⟨rx, kx, -⟩ := whB_can g1
  obtain ⟨ry, ky, -⟩ := whB_can g2
  by_cases g3 : len + len2 = 0
  · rw [hb_2 (by omega)]
    rw [g1] at H1; rw [g2] at H2
    have h3 : (len : Int) + (len2 : Int) = 0 := by omega
    clear lx ly rx ry kx ky g3
    go_enter Try.func57, Try.ntmps57
    go_wp2_with fail
    refine (H1.out _ ?_).mono ?_
    · refine Ints.below HX.out ?_; repeat' (first | (with_reducible exact Below.refl _ _) | (with_reducible assumption) | (with_reducible refine Below.alloc ?_ ?_ _) | (with_reducible refine Below.setCell ?_ ?_ _) | (with_reducible refine Below.drew ?_) | (with_reducible refine below_drewN ?_ _) | (apply bthen2; (with_reducible assumption)) | go_size)
    rintro e wa ⟨rfl, hba⟩; have hza := hba.size; (try simp only [World.size_alloc, World.size_setCell, World.size_drew, World.heap_drewN] at hza); try (refine keepc hba (w.heap.size) ?_ ?_; (focus (first | omega | (simp <;> omega))); intro hca_0 hfa_0 hla_0); try (refine keepc hba (w.heap.size + 1) ?_ ?_; (focus (first | omega | (simp <;> omega))); intro hca_1 hfa_1 hla_1); try (refine keepc hba (w.heap.size + 1 + 1) ?_ ?_; (focus (first | omega | (simp <;> omega))); intro hca_2 hfa_2 hla_2)
    go_wp2_with fail
    refine (H2.out _ ?_).mono ?_
    · refine Ints.below HY.out ?_; repeat' (first | (with_reducible exact Below.refl _ _) | (with_reducible assumption) | (with_reducible refine Below.alloc ?_ ?_ _) | (with_reducible refine Below.setCell ?_ ?_ _) | (with_reducible refine Below.drew ?_) | (with_reducible refine below_drewN ?_ _) | (apply bthen2; (with_reducible assumption)) | go_size)
    rintro e wb ⟨rfl, hbb⟩; have hzb := hbb.size; (try simp only [World.size_alloc, World.size_setCell, World.size_drew, World.heap_drewN] at hzb); try (refine keepc hbb (w.heap.size) ?_ ?_; (focus (first | omega | (simp <;> omega))); intro hcb_0 hfb_0 hlb_0); try (refine keepc hbb (w.heap.size + 1) ?_ ?_; (focus (first | omega | (simp <;> omega))); intro hcb_1 hfb_1 hlb_1); try (refine keepc hbb (w.heap.size + 1 + 1) ?_ ?_; (focus (first | omega | (simp <;> omega))); intro hcb_2 hfb_2 hlb_2)
    go_wp2
    go_ret2
    exact gives rfl (by repeat' (first | (with_reducible exact Below.refl _ _) | (with_reducible assumption) | (with_reducible refine Below.alloc ?_ ?_ _) | (with_reducible refine Below.setCell ?_ ?_ _) | (with_reducible refine Below.drew ?_) | (with_reducible refine below_drewN ?_ _) | (apply bthen2; (with_reducible assumption)) | go_size))
  rw [hb_3 g1 g2 (by omega)]
  rw [g1] at H1; rw [g2] at H2
  obtain ⟨S, hS⟩ : ∃ S : Int, (len : Int) + (len2 : Int) = S := ⟨_, rfl⟩
  have h3 : 0 < S := by omega
  have h3b : S ≤ 800 := by omega
  have HB := Lib.hid (fun W h h' => htBits_any n1 n2 a a2 len cap len2 cap2 xs ys W h h' rx ry (by omega) (by omega))
  generalize bl (max (val xs) (val ys)).toNat = R at *
  clear lx ly rx ry kx ky g3 g1 g2
  go_enter Try.func57, Try.ntmps57
  go_wp2_with fail
  refine (H1.out _ ?_).mono ?_
  · refine Ints.below HX.out ?_; repeat' (first | (with_reducible exact Below.refl _ _) | (with_reducible assumption) | (with_reducible refine Below.alloc ?_ ?_ _) | (with_reducible refine Below.setCell ?_ ?_ _) | (with_reducible refine Below.drew ?_) | (with_reducible refine below_drewN ?_ _) | (apply bthen2; (with_reducible assumption)) | go_size)
  rintro e wa ⟨rfl, hba⟩; have hza := hba.size; (try simp only [World.size_alloc, World.size_setCell, World.size_drew, World.heap_drewN] at hza); try (refine keepc hba (w.heap.size) ?_ ?_; (focus (first | omega | (simp <;> omega))); intro hca_0 hfa_0 hla_0); try (refine keepc hba (w.heap.size + 1) ?_ ?_; (focus (first | omega | (simp <;> omega))); intro hca_1 hfa_1 hla_1); try (refine keepc hba (w.heap.size + 1 + 1) ?_ ?_; (focus (first | omega | (simp <;> omega))); intro hca_2 hfa_2 hla_2)
  go_wp2_with fail
  refine (H2.out _ ?_).mono ?_
  · refine Ints.below HY.out ?_; repeat' (first | (with_reducible exact Below.refl _ _) | (with_reducible assumption) | (with_reducible refine Below.alloc ?_ ?_ _) | (with_reducible refine Below.setCell ?_ ?_ _) | (with_reducible refine Below.drew ?_) | (with_reducible refine below_drewN ?_ _) | (apply bthen2; (with_reducible assumption)) | go_size)
  rintro e wb ⟨rfl, hbb⟩; have hzb := hbb.size; (try simp only [World.size_alloc, World.size_setCell, World.size_drew, World.heap_drewN] at hzb); try (refine keepc hbb (w.heap.size) ?_ ?_; (focus (first | omega | (simp <;> omega))); intro hcb_0 hfb_0 hlb_0); try (refine keepc hbb (w.heap.size + 1) ?_ ?_; (focus (first | omega | (simp <;> omega))); intro hcb_1 hfb_1 hlb_1); try (refine keepc hbb (w.heap.size + 1 + 1) ?_ ?_; (focus (first | omega | (simp <;> omega))); intro hcb_2 hfb_2 hlb_2)
  go_wp2_with fail
  refine (HB.out _ ?_ ?_).mono ?_
  · refine Ints.below HX.out ?_; repeat' (first | (with_reducible exact Below.refl _ _) | (with_reducible assumption) | (with_reducible refine Below.alloc ?_ ?_ _) | (with_reducible refine Below.setCell ?_ ?_ _) | (with_reducible refine Below.drew ?_) | (with_reducible refine below_drewN ?_ _) | (apply bthen2; (with_reducible assumption)) | go_size)
  · refine Ints.below HY.out ?_; repeat' (first | (with_reducible exact Below.refl _ _) | (with_reducible assumption) | (with_reducible refine Below.alloc ?_ ?_ _) | (with_reducible refine Below.setCell ?_ ?_ _) | (with_reducible refine Below.drew ?_) | (with_reducible refine below_drewN ?_ _) | (apply bthen2; (with_reducible assumption)) | go_size)
  rintro e wc ⟨rfl, hbc⟩; have hzc := hbc.size; (try simp only [World.size_alloc, World.size_setCell, World.size_drew, World.heap_drewN] at hzc); try (refine keepc hbc (w.heap.size) ?_ ?_; (focus (first | omega | (simp <;> omega))); intro hcc_0 hfc_0 hlc_0); try (refine keepc hbc (w.heap.size + 1) ?_ ?_; (focus (first | omega | (simp <;> omega))); intro hcc_1 hfc_1 hlc_1); try (refine keepc hbc (w.heap.size + 1 + 1) ?_ ?_; (focus (first | omega | (simp <;> omega))); intro hcc_2 hfc_2 hlc_2)
  go_wp2
  go_ret2
  exact gives rfl (by repeat' (first | (with_reducible exact Below.refl _ _) | (with_reducible assumption) | (with_reducible refine Below.alloc ?_ ?_ _) | (with_reducible refine Below.setCell ?_ ?_ _) | (with_reducible refine Below.drew ?_) | (with_reducible refine below_drewN ?_ _) | (apply bthen2; (with_reducible assumption)) | go_size))

set_option maxRecDepth 100000 in
set_option maxHeartbeats 4000000 in
theorem walk_FnExactHeightBits (n1 : Bool) (a : Option Addr) (len cap : Nat) (xs : List Int) (n2 : Bool) (a2 : Option Addr) (len2 cap2 : Nat) (ys : List Int) (w : World) (hx : Ints w (.slice a len cap) xs) (hy : Ints w (.slice a2 len2 cap2) ys) :
    Calls Try.prog 13 #[.agg #[.bool n1, .slice a len cap], .agg #[.bool n2, .slice a2 len2 cap2]] w (Gives (.bool true) w) := by
  have HS := Lib.hid (fun W h => szWhole_any n1 a len cap xs 1048576 (by decide) (by decide) W h)
  have q1 := szL_le xs (left := 1048576) (by decide)
  have hL1 : ¬ szL xs 1048576 < 0 → xs.length ≤ 1048576 := by intro h; unfold szL at h; split at h <;> omega
  have HL1 := Lib.hid hL1; clear hL1
  generalize szL xs 1048576 = L1 at *
  have H1 := fun h0 h1 W h => szWhole_any n2 a2 len2 cap2 ys L1 h0 h1 W h
  have q2 := fun h => szL_le ys (left := L1) h
  have hL2 : ¬ szL ys L1 < 0 → L1 ≤ 1048576 → ys.length ≤ 1048576 := by intro h h2; unfold szL at h; split at h <;> omega
  have HL2 := Lib.hid hL2; clear hL2
  generalize szL ys L1 = L2 at *
  have HX := Lib.hid hx; have HY := Lib.hid hy
  clear hx hy
  by_cases g1 : L1 < 0
  · clear q2 H1
    go_enter Try.func13, Try.ntmps13
    go_wp2_with fail
    refine (HS.out _ ?_).mono ?_
    · refine Ints.below HX.out ?_; repeat' (first | (with_reducible exact Below.refl _ _) | (with_reducible assumption) | (with_reducible refine Below.alloc ?_ ?_ _) | (with_reducible refine Below.setCell ?_ ?_ _) | (with_reducible refine Below.drew ?_) | (with_reducible refine below_drewN ?_ _) | (apply bthen2; (with_reducible assumption)) | go_size)
    rintro e wa ⟨rfl, hba⟩; have hza := hba.size; (try simp only [World.size_alloc, World.size_setCell, World.size_drew, World.heap_drewN] at hza); try (refine keepc hba (w.heap.size) ?_ ?_; (focus (first | omega | (simp <;> omega))); intro hca_0 hfa_0 hla_0); try (refine keepc hba (w.heap.size + 1) ?_ ?_; (focus (first | omega | (simp <;> omega))); intro hca_1 hfa_1 hla_1); try (refine keepc hba (w.heap.size + 1 + 1) ?_ ?_; (focus (first | omega | (simp <;> omega))); intro hca_2 hfa_2 hla_2)
    go_wp2
    go_ret; exact gives rfl (by repeat' (first | (with_reducible exact Below.refl _ _) | (with_reducible assumption) | (with_reducible refine Below.alloc ?_ ?_ _) | (with_reducible refine Below.setCell ?_ ?_ _) | (with_reducible refine Below.drew ?_) | (with_reducible refine below_drewN ?_ _) | (apply bthen2; (with_reducible assumption)) | go_size))
  have H1 := Lib.hid (fun W h => H1 (by omega) (by omega) W h)
  have q2 := q2 (by omega)
  have hn1 := HL1.out g1
  by_cases g2 : L2 < 0
  · go_enter Try.func13, Try.ntmps13
    go_wp2_with fail
    refine (HS.out _ ?_).mono ?_
    · refine Ints.below HX.out ?_; repeat' (first | (with_reducible exact Below.refl _ _) | (with_reducible assumption) | (with_reducible refine Below.alloc ?_ ?_ _) | (with_reducible refine Below.setCell ?_ ?_ _) | (with_reducible refine Below.drew ?_) | (with_reducible refine below_drewN ?_ _) | (apply bthen2; (with_reducible assumption)) | go_size)
    rintro e wa ⟨rfl, hba⟩; have hza := hba.size; (try simp only [World.size_alloc, World.size_setCell, World.size_drew, World.heap_drewN] at hza); try (refine keepc hba (w.heap.size) ?_ ?_; (focus (first | omega | (simp <;> omega))); intro hca_0 hfa_0 hla_0); try (refine keepc hba (w.heap.size + 1) ?_ ?_; (focus (first | omega | (simp <;> omega))); intro hca_1 hfa_1 hla_1); try (refine keepc hba (w.heap.size + 1 + 1) ?_ ?_; (focus (first | omega | (simp <;> omega))); intro hca_2 hfa_2 hla_2)
    go_wp2_with fail
    refine (H1.out _ ?_).mono ?_
    · refine Ints.below HY.out ?_; repeat' (first | (with_reducible exact Below.refl _ _) | (with_reducible assumption) | (with_reducible refine Below.alloc ?_ ?_ _) | (with_reducible refine Below.setCell ?_ ?_ _) | (with_reducible refine Below.drew ?_) | (with_reducible refine below_drewN ?_ _) | (apply bthen2; (with_reducible assumption)) | go_size)
    rintro e wb ⟨rfl, hbb⟩; have hzb := hbb.size; (try simp only [World.size_alloc, World.size_setCell, World.size_drew, World.heap_drewN] at hzb); try (refine keepc hbb (w.heap.size) ?_ ?_; (focus (first | omega | (simp <;> omega))); intro hcb_0 hfb_0 hlb_0); try (refine keepc hbb (w.heap.size + 1) ?_ ?_; (focus (first | omega | (simp <;> omega))); intro hcb_1 hfb_1 hlb_1); try (refine keepc hbb (w.heap.size + 1 + 1) ?_ ?_; (focus (first | omega | (simp <;> omega))); intro hcb_2 hfb_2 hlb_2)
    go_wp2
    go_ret; exact gives rfl (by repeat' (first | (with_reducible exact Below.refl _ _) | (with_reducible assumption) | (with_reducible refine Below.alloc ?_ ?_ _) | (with_reducible refine Below.setCell ?_ ?_ _) | (with_reducible refine Below.drew ?_) | (with_reducible refine below_drewN ?_ _) | (apply bthen2; (with_reducible assumption)) | go_size))
  have hn2 := HL2.out g2 q1
  obtain ⟨r0, r1, hr⟩ : ∃ r0 r1, hbV n1 xs n2 ys = .tuple #[.int .i64 r0, .bool r1] := by unfold hbV; split <;> exact ⟨_, _, rfl⟩
  have hi := fun a a2 len cap len2 cap2 W h h' => HeightBits_any n1 n2 a a2 len cap len2 cap2 xs ys W h h'
  have hs := fun a a2 len cap len2 cap2 W h h' => sHeightBits_any n1 n2 a a2 len cap len2 cap2 xs ys W h h'
  rw [hr] at hi hs
  have HI := Lib.hid hi; have HSP := Lib.hid hs
  clear hr hi hs
  have HTX := Lib.hid (fun W h => toWhole_any n1 a len cap xs W h hn1)
  have HTY := Lib.hid (fun W h => toWhole_any n2 a2 len2 cap2 ys W h hn2)
  clear hn1 hn2 HL1 HL2
  go_enter Try.func13, Try.ntmps13
  go_wp2_with fail
  refine (HS.out _ ?_).mono ?_
  · refine Ints.below HX.out ?_; repeat' (first | (with_reducible exact Below.refl _ _) | (with_reducible assumption) | (with_reducible refine Below.alloc ?_ ?_ _) | (with_reducible refine Below.setCell ?_ ?_ _) | (with_reducible refine Below.drew ?_) | (with_reducible refine below_drewN ?_ _) | (apply bthen2; (with_reducible assumption)) | go_size)
  rintro e wa ⟨rfl, hba⟩; have hza := hba.size; (try simp only [World.size_alloc, World.size_setCell, World.size_drew, World.heap_drewN] at hza); try (refine keepc hba (w.heap.size) ?_ ?_; (focus (first | omega | (simp <;> omega))); intro hca_0 hfa_0 hla_0); try (refine keepc hba (w.heap.size + 1) ?_ ?_; (focus (first | omega | (simp <;> omega))); intro hca_1 hfa_1 hla_1); try (refine keepc hba (w.heap.size + 1 + 1) ?_ ?_; (focus (first | omega | (simp <;> omega))); intro hca_2 hfa_2 hla_2)
  go_wp2_with fail
  refine (H1.out _ ?_).mono ?_
  · refine Ints.below HY.out ?_; repeat' (first | (with_reducible exact Below.refl _ _) | (with_reducible assumption) | (with_reducible refine Below.alloc ?_ ?_ _) | (with_reducible refine Below.setCell ?_ ?_ _) | (with_reducible refine Below.drew ?_) | (with_reducible refine below_drewN ?_ _) | (apply bthen2; (with_reducible assumption)) | go_size)
  rintro e wb ⟨rfl, hbb⟩; have hzb := hbb.size; (try simp only [World.size_alloc, World.size_setCell, World.size_drew, World.heap_drewN] at hzb); try (refine keepc hbb (w.heap.size) ?_ ?_; (focus (first | omega | (simp <;> omega))); intro hcb_0 hfb_0 hlb_0); try (refine keepc hbb (w.heap.size + 1) ?_ ?_; (focus (first | omega | (simp <;> omega))); intro hcb_1 hfb_1 hlb_1); try (refine keepc hbb (w.heap.size + 1 + 1) ?_ ?_; (focus (first | omega | (simp <;> omega))); intro hcb_2 hfb_2 hlb_2)
  have z0 : wb.cell? ⟨w.heap.size, 0, none⟩ = some (.bool n1) := by simp [hcb_0, hca_0, hla_0, hlb_0, go_sem]
  have z1 : wb.cell? ⟨w.heap.size, 1, none⟩ = some (.slice a len cap) := by simp [hcb_0, hca_0, hla_0, hlb_0, go_sem]
  have z2 : wb.cell? ⟨w.heap.size + 1, 0, none⟩ = some (.bool n2) := by simp [hcb_1, hca_1, hla_1, hlb_1, go_sem]
  have z3 : wb.cell? ⟨w.heap.size + 1, 1, none⟩ = some (.slice a2 len2 cap2) := by simp [hcb_1, hca_1, hla_1, hlb_1, go_sem]
  have gx := Ints.below HX.out (w' := wb) (by repeat' (first | (with_reducible exact Below.refl _ _) | (with_reducible assumption) | (with_reducible refine Below.alloc ?_ ?_ _) | (with_reducible refine Below.setCell ?_ ?_ _) | (with_reducible refine Below.drew ?_) | (with_reducible refine below_drewN ?_ _) | (apply bthen2; (with_reducible assumption)) | go_size))
  have gy := Ints.below HY.out (w' := wb) (by repeat' (first | (with_reducible exact Below.refl _ _) | (with_reducible assumption) | (with_reducible refine Below.alloc ?_ ?_ _) | (with_reducible refine Below.setCell ?_ ?_ _) | (with_reducible refine Below.drew ?_) | (with_reducible refine below_drewN ?_ _) | (apply bthen2; (with_reducible assumption)) | go_size))
  have hB : Below w.heap.size w wb := (by repeat' (first | (with_reducible exact Below.refl _ _) | (with_reducible assumption) | (with_reducible refine Below.alloc ?_ ?_ _) | (with_reducible refine Below.setCell ?_ ?_ _) | (with_reducible refine Below.drew ?_) | (with_reducible refine below_drewN ?_ _) | (apply bthen2; (with_reducible assumption)) | go_size))
  have hs0 : w.heap.size < wb.heap.size := hlb_0
  have hs1 : w.heap.size + 1 < wb.heap.size := hlb_1
  clear hca_0 hfa_0 hla_0 hca_1 hfa_1 hla_1 hcb_0 hfb_0 hlb_0 hcb_1 hfb_1 hlb_1 hba hbb hza hzb HS H1
  go_upto_region 8 with fail
  go_cut [6, 7] (fun s6 s7 wx => s6 = .int .i64 r0 ∧ s7 = .bool r1 ∧ Below wb.heap.size wb wx)
  case first =>
    go_region_held3 (fun w' => Below wb.heap.size wb w' ∧ w'.cell? ⟨w.heap.size, 0, none⟩ = some (.bool n1) ∧ w'.cell? ⟨w.heap.size, 1, none⟩ = some (.slice a len cap) ∧ w'.cell? ⟨w.heap.size + 1, 0, none⟩ = some (.bool n2) ∧ w'.cell? ⟨w.heap.size + 1, 1, none⟩ = some (.slice a2 len2 cap2)) ((refine (fun hbK => And.intro hbK (by exact ⟨(hbK.cell (p := ⟨w.heap.size, 0, none⟩) (by first | assumption | omega | (simp; omega))).trans z0, (hbK.cell (p := ⟨w.heap.size, 1, none⟩) (by first | assumption | omega | (simp; omega))).trans z1, (hbK.cell (p := ⟨w.heap.size + 1, 0, none⟩) (by first | assumption | omega | (simp; omega))).trans z2, (hbK.cell (p := ⟨w.heap.size + 1, 1, none⟩) (by first | assumption | omega | (simp; omega))).trans z3⟩)) ?_; repeat' (first | (with_reducible exact Below.refl _ _) | (with_reducible assumption) | (with_reducible refine Below.alloc ?_ ?_ _) | (with_reducible refine Below.setCell ?_ ?_ _) | (with_reducible refine Below.drew ?_) | (with_reducible refine below_drewN ?_ _) | (apply bthen2; (with_reducible assumption)) | go_size))) ((first | (go_at_call_of 26 (Value.slice a len cap); refine (HTX.out _ ?_).mono ?_; (focus (refine Ints.below gx ?_; repeat' (first | (with_reducible exact Below.refl _ _) | (with_reducible assumption) | (with_reducible refine Below.alloc ?_ ?_ _) | (with_reducible refine Below.setCell ?_ ?_ _) | (with_reducible refine Below.drew ?_) | (with_reducible refine below_drewN ?_ _) | (apply bthen2; (with_reducible assumption)) | go_size))); rintro e wf ⟨a5, len5, cap5, rfl, ow5, hb5⟩) | (go_at_call_of 26 (Value.slice a2 len2 cap2); refine (HTY.out _ ?_).mono ?_; (focus (refine Ints.below gy ?_; repeat' (first | (with_reducible exact Below.refl _ _) | (with_reducible assumption) | (with_reducible refine Below.alloc ?_ ?_ _) | (with_reducible refine Below.setCell ?_ ?_ _) | (with_reducible refine Below.drew ?_) | (with_reducible refine below_drewN ?_ _) | (apply bthen2; (with_reducible assumption)) | go_size))); rintro e wg ⟨a6, len6, cap6, rfl, ow6, hb6⟩) | (go_at_call 57; refine (HSP.out _ _ _ _ _ _ _ ?_ ?_).mono ?_; (focus (refine Ints.below ow5.ints ?_; repeat' (first | (with_reducible exact Below.refl _ _) | (with_reducible assumption) | (with_reducible refine Below.alloc ?_ ?_ _) | (with_reducible refine Below.setCell ?_ ?_ _) | (with_reducible refine Below.drew ?_) | (with_reducible refine below_drewN ?_ _) | (apply bthen2; (with_reducible assumption)) | go_size))); (focus (refine Ints.below ow6.ints ?_; repeat' (first | (with_reducible exact Below.refl _ _) | (with_reducible assumption) | (with_reducible refine Below.alloc ?_ ?_ _) | (with_reducible refine Below.setCell ?_ ?_ _) | (with_reducible refine Below.drew ?_) | (with_reducible refine below_drewN ?_ _) | (apply bthen2; (with_reducible assumption)) | go_size))); rintro e wh ⟨rfl, hb7⟩)))
    all_goals (go_wp2_with fail; go_meet; exact ⟨rfl, rfl, (by repeat' (first | (with_reducible exact Below.refl _ _) | (with_reducible assumption) | (with_reducible refine Below.alloc ?_ ?_ _) | (with_reducible refine Below.setCell ?_ ?_ _) | (with_reducible refine Below.drew ?_) | (with_reducible refine below_drewN ?_ _) | (apply bthen2; (with_reducible assumption)) | go_size))⟩)
  case rest =>
    obtain ⟨rfl, rfl, hbx⟩ := hcut
    have y0 := (hbx.cell (p := ⟨w.heap.size, 0, none⟩) hs0).trans z0
    have y1 := (hbx.cell (p := ⟨w.heap.size, 1, none⟩) hs0).trans z1
    have y2 := (hbx.cell (p := ⟨w.heap.size + 1, 0, none⟩) hs1).trans z2
    have y3 := (hbx.cell (p := ⟨w.heap.size + 1, 1, none⟩) hs1).trans z3
    have hX := Ints.below gx hbx
    have hY := Ints.below gy hbx
    have hB2 : Below w.heap.size w wc := (by repeat' (first | (with_reducible exact Below.refl _ _) | (with_reducible assumption) | (with_reducible refine Below.alloc ?_ ?_ _) | (with_reducible refine Below.setCell ?_ ?_ _) | (with_reducible refine Below.drew ?_) | (with_reducible refine below_drewN ?_ _) | (apply bthen2; (with_reducible assumption)) | go_size))
    have hs2 : w.heap.size < wc.heap.size := by have := hbx.size; omega
    have hs3 : w.heap.size + 1 < wc.heap.size := by have := hbx.size; omega
    clear z0 z1 z2 z3 gx gy hB hs0 hs1 hbx HSP
    go_wp2_with fail
    refine (HTX.out _ ?_).mono ?_
    · refine Ints.below hX ?_; repeat' (first | (with_reducible exact Below.refl _ _) | (with_reducible assumption) | (with_reducible refine Below.alloc ?_ ?_ _) | (with_reducible refine Below.setCell ?_ ?_ _) | (with_reducible refine Below.drew ?_) | (with_reducible refine below_drewN ?_ _) | (apply bthen2; (with_reducible assumption)) | go_size)
    rintro e wd ⟨a5, len5, cap5, rfl, ow5, hbd⟩
    have hzd := hbd.size; (try simp only [World.size_alloc, World.size_setCell, World.size_drew, World.heap_drewN] at hzd); try (refine keepc hbd (w.heap.size) ?_ ?_; (focus (first | omega | (simp <;> omega))); intro hcd_0 hfd_0 hld_0); try (refine keepc hbd (w.heap.size + 1) ?_ ?_; (focus (first | omega | (simp <;> omega))); intro hcd_1 hfd_1 hld_1); try (refine keepc hbd (w.heap.size + 1 + 1) ?_ ?_; (focus (first | omega | (simp <;> omega))); intro hcd_2 hfd_2 hld_2)
    go_wp2_with fail
    refine (HTY.out _ ?_).mono ?_
    · refine Ints.below hY ?_; repeat' (first | (with_reducible exact Below.refl _ _) | (with_reducible assumption) | (with_reducible refine Below.alloc ?_ ?_ _) | (with_reducible refine Below.setCell ?_ ?_ _) | (with_reducible refine Below.drew ?_) | (with_reducible refine below_drewN ?_ _) | (apply bthen2; (with_reducible assumption)) | go_size)
    rintro e we ⟨a6, len6, cap6, rfl, ow6, hbe⟩
    have hze := hbe.size; (try simp only [World.size_alloc, World.size_setCell, World.size_drew, World.heap_drewN] at hze); try (refine keepc hbe (w.heap.size) ?_ ?_; (focus (first | omega | (simp <;> omega))); intro hce_0 hfe_0 hle_0); try (refine keepc hbe (w.heap.size + 1) ?_ ?_; (focus (first | omega | (simp <;> omega))); intro hce_1 hfe_1 hle_1); try (refine keepc hbe (w.heap.size + 1 + 1) ?_ ?_; (focus (first | omega | (simp <;> omega))); intro hce_2 hfe_2 hle_2)
    (refine keepc hbe (wd.heap.size) ?_ ?_; (focus (first | omega | (simp; done) | (simp; omega))); intro hce_x hfe_x hle_x)
    go_wp2_with fail
    refine (HI.out _ _ _ _ _ _ _ ?_ ?_).mono ?_
    · refine Ints.below ow5.ints ?_; repeat' (first | (with_reducible exact Below.refl _ _) | (with_reducible assumption) | (with_reducible refine Below.alloc ?_ ?_ _) | (with_reducible refine Below.setCell ?_ ?_ _) | (with_reducible refine Below.drew ?_) | (with_reducible refine below_drewN ?_ _) | (apply bthen2; (with_reducible assumption)) | go_size)
    · refine Ints.below ow6.ints ?_; repeat' (first | (with_reducible exact Below.refl _ _) | (with_reducible assumption) | (with_reducible refine Below.alloc ?_ ?_ _) | (with_reducible refine Below.setCell ?_ ?_ _) | (with_reducible refine Below.drew ?_) | (with_reducible refine below_drewN ?_ _) | (apply bthen2; (with_reducible assumption)) | go_size)
    rintro e wf ⟨rfl, hbf⟩
    have hzf := hbf.size; (try simp only [World.size_alloc, World.size_setCell, World.size_drew, World.heap_drewN] at hzf); try (refine keepc hbf (w.heap.size) ?_ ?_; (focus (first | omega | (simp <;> omega))); intro hcf_0 hff_0 hlf_0); try (refine keepc hbf (w.heap.size + 1) ?_ ?_; (focus (first | omega | (simp <;> omega))); intro hcf_1 hff_1 hlf_1); try (refine keepc hbf (w.heap.size + 1 + 1) ?_ ?_; (focus (first | omega | (simp <;> omega))); intro hcf_2 hff_2 hlf_2)
    (refine keepc hbf (wd.heap.size) ?_ ?_; (focus (first | omega | (simp; done) | (simp; omega))); intro hcf_x hff_x hlf_x)
    (refine keepc hbf (we.heap.size) ?_ ?_; (focus (first | omega | (simp; done) | (simp; omega))); intro hcf_y hff_y hlf_y)
    go_upto_region 14 with fail
    have z0 : wf.cell? ⟨w.heap.size, 0, none⟩ = some (.bool n1) := by simp [hcf_0, hce_0, hcd_0, hlf_0, hle_0, hld_0, y0, go_sem]
    have z1 : wf.cell? ⟨w.heap.size, 1, none⟩ = some (.slice a len cap) := by simp [hcf_0, hce_0, hcd_0, hlf_0, hle_0, hld_0, y1, go_sem]
    have z2 : wf.cell? ⟨w.heap.size + 1, 0, none⟩ = some (.bool n2) := by simp [hcf_1, hce_1, hcd_1, hlf_1, hle_1, hld_1, y2, go_sem]
    have z3 : wf.cell? ⟨w.heap.size + 1, 1, none⟩ = some (.slice a2 len2 cap2) := by simp [hcf_1, hce_1, hcd_1, hlf_1, hle_1, hld_1, y3, go_sem]
    have x0 : wf.cell? ⟨wd.heap.size, 0, none⟩ = some (.bool n1) := by simp [hcf_x, hce_x, hle_x, go_sem]
    have x1 : wf.cell? ⟨wd.heap.size, 1, none⟩ = some (.slice a5 len5 cap5) := by simp [hcf_x, hce_x, hle_x, go_sem]
    have x2 : wf.cell? ⟨we.heap.size, 0, none⟩ = some (.bool n2) := by rw [hcf_y]; simp [go_sem]
    have x3 : wf.cell? ⟨we.heap.size, 1, none⟩ = some (.slice a6 len6 cap6) := by rw [hcf_y]; simp [go_sem]
    have gx := Ints.below hX (w' := wf) (by repeat' (first | (with_reducible exact Below.refl _ _) | (with_reducible assumption) | (with_reducible refine Below.alloc ?_ ?_ _) | (with_reducible refine Below.setCell ?_ ?_ _) | (with_reducible refine Below.drew ?_) | (with_reducible refine below_drewN ?_ _) | (apply bthen2; (with_reducible assumption)) | go_size))
    have gy := Ints.below hY (w' := wf) (by repeat' (first | (with_reducible exact Below.refl _ _) | (with_reducible assumption) | (with_reducible refine Below.alloc ?_ ?_ _) | (with_reducible refine Below.setCell ?_ ?_ _) | (with_reducible refine Below.drew ?_) | (with_reducible refine below_drewN ?_ _) | (apply bthen2; (with_reducible assumption)) | go_size))
    have g3 := Ints.below ow5.ints (w' := wf) (by repeat' (first | (with_reducible exact Below.refl _ _) | (with_reducible assumption) | (with_reducible refine Below.alloc ?_ ?_ _) | (with_reducible refine Below.setCell ?_ ?_ _) | (with_reducible refine Below.drew ?_) | (with_reducible refine below_drewN ?_ _) | (apply bthen2; (with_reducible assumption)) | go_size))
    have g4 := Ints.below ow6.ints (w' := wf) (by repeat' (first | (with_reducible exact Below.refl _ _) | (with_reducible assumption) | (with_reducible refine Below.alloc ?_ ?_ _) | (with_reducible refine Below.setCell ?_ ?_ _) | (with_reducible refine Below.drew ?_) | (with_reducible refine below_drewN ?_ _) | (apply bthen2; (with_reducible assumption)) | go_size))
    have hB : Below w.heap.size w wf := (by repeat' (first | (with_reducible exact Below.refl _ _) | (with_reducible assumption) | (with_reducible refine Below.alloc ?_ ?_ _) | (with_reducible refine Below.setCell ?_ ?_ _) | (with_reducible refine Below.drew ?_) | (with_reducible refine below_drewN ?_ _) | (apply bthen2; (with_reducible assumption)) | go_size))
    have q1 : w.heap.size < wf.heap.size := by omega
    have q2 : w.heap.size + 1 < wf.heap.size := by omega
    have q3 : wd.heap.size < wf.heap.size := by omega
    have q4 : we.heap.size < wf.heap.size := by omega
    clear hcf_0 hff_0 hlf_0 hce_0 hfe_0 hle_0 hcd_0 hfd_0 hld_0 hcf_1 hff_1 hlf_1 hce_1 hfe_1 hle_1 hcd_1 hfd_1 hld_1 hce_2 hfe_2 hle_2 hcf_2 hff_2 hlf_2 hcf_x hff_x hlf_x hce_x hfe_x hle_x hcf_y hff_y hlf_y hbd hbe hbf hzd hze hzf ow5 ow6 hX hY y0 y1 y2 y3 hB2 hs2 hs3 HI
    go_cut [52] (fun s52 wx => s52 = .bool false ∧ Below wf.heap.size wf wx)
    case first =>
      go_region_held3 (fun w' => Below wf.heap.size wf w' ∧ w'.cell? ⟨w.heap.size, 0, none⟩ = some (.bool n1) ∧ w'.cell? ⟨w.heap.size, 1, none⟩ = some (.slice a len cap) ∧ w'.cell? ⟨wd.heap.size, 0, none⟩ = some (.bool n1) ∧ w'.cell? ⟨wd.heap.size, 1, none⟩ = some (.slice a5 len5 cap5)) ((refine (fun hbK => And.intro hbK (by exact ⟨(hbK.cell (p := ⟨w.heap.size, 0, none⟩) (by first | assumption | omega | (simp; omega))).trans z0, (hbK.cell (p := ⟨w.heap.size, 1, none⟩) (by first | assumption | omega | (simp; omega))).trans z1, (hbK.cell (p := ⟨wd.heap.size, 0, none⟩) (by first | assumption | omega | (simp; omega))).trans x0, (hbK.cell (p := ⟨wd.heap.size, 1, none⟩) (by first | assumption | omega | (simp; omega))).trans x1⟩)) ?_; repeat' (first | (with_reducible exact Below.refl _ _) | (with_reducible assumption) | (with_reducible refine Below.alloc ?_ ?_ _) | (with_reducible refine Below.setCell ?_ ?_ _) | (with_reducible refine Below.drew ?_) | (with_reducible refine below_drewN ?_ _) | (apply bthen2; (with_reducible assumption)) | go_size))) ((first | (go_at_call_of 26 (Value.slice a len cap); refine (HTX.out _ ?_).mono ?_; (focus (refine Ints.below gx ?_; repeat' (first | (with_reducible exact Below.refl _ _) | (with_reducible assumption) | (with_reducible refine Below.alloc ?_ ?_ _) | (with_reducible refine Below.setCell ?_ ?_ _) | (with_reducible refine Below.drew ?_) | (with_reducible refine below_drewN ?_ _) | (apply bthen2; (with_reducible assumption)) | go_size))); rintro e wg ⟨a7, len7, cap7, rfl, ow7, hb7⟩) | (go_at_call 28; refine (eqWhole_same _ _ _ _ _ _ _ xs _ ?_ ?_).mono ?_; (focus (refine Ints.below g3 ?_;  repeat' (first | (with_reducible exact Below.refl _ _) | (with_reducible assumption) | (with_reducible refine Below.alloc ?_ ?_ _) | (with_reducible refine Below.setCell ?_ ?_ _) | (with_reducible refine Below.drew ?_) | (with_reducible refine below_drewN ?_ _) | (apply bthen2; (with_reducible assumption)) | go_size))); (focus (refine Ints.below ow7.ints ?_; repeat' (first | (with_reducible exact Below.refl _ _) | (with_reducible assumption) | (with_reducible refine Below.alloc ?_ ?_ _) | (with_reducible refine Below.setCell ?_ ?_ _) | (with_reducible refine Below.drew ?_) | (with_reducible refine below_drewN ?_ _) | (apply bthen2; (with_reducible assumption)) | go_size))); rintro e wh ⟨rfl, hb8⟩)))
      all_goals (go_wp2_with fail; go_meet; exact ⟨rfl, (by repeat' (first | (with_reducible exact Below.refl _ _) | (with_reducible assumption) | (with_reducible refine Below.alloc ?_ ?_ _) | (with_reducible refine Below.setCell ?_ ?_ _) | (with_reducible refine Below.drew ?_) | (with_reducible refine below_drewN ?_ _) | (apply bthen2; (with_reducible assumption)) | go_size))⟩)
    case rest =>
    obtain ⟨rfl, hbx⟩ := hcut
    have y2 := (hbx.cell (p := ⟨w.heap.size + 1, 0, none⟩) q2).trans z2
    have y3 := (hbx.cell (p := ⟨w.heap.size + 1, 1, none⟩) q2).trans z3
    have t2 := (hbx.cell (p := ⟨we.heap.size, 0, none⟩) q4).trans x2
    have t3 := (hbx.cell (p := ⟨we.heap.size, 1, none⟩) q4).trans x3
    have hY := Ints.below gy hbx
    have h4 := Ints.below g4 hbx
    have hB2 : Below w.heap.size w wc := (by repeat' (first | (with_reducible exact Below.refl _ _) | (with_reducible assumption) | (with_reducible refine Below.alloc ?_ ?_ _) | (with_reducible refine Below.setCell ?_ ?_ _) | (with_reducible refine Below.drew ?_) | (with_reducible refine below_drewN ?_ _) | (apply bthen2; (with_reducible assumption)) | go_size))
    have q5 : w.heap.size + 1 < wc.heap.size := by have := hbx.size; omega
    have q6 : we.heap.size < wc.heap.size := by have := hbx.size; omega
    clear z0 z1 z2 z3 x0 x1 x2 x3 gx gy g3 g4 hbx hB q1 q2 q3 q4
    go_upto_region 16 with fail
    go_region_held3 (fun w' => Below wc.heap.size wc w' ∧ w'.cell? ⟨w.heap.size + 1, 0, none⟩ = some (.bool n2) ∧ w'.cell? ⟨w.heap.size + 1, 1, none⟩ = some (.slice a2 len2 cap2) ∧ w'.cell? ⟨we.heap.size, 0, none⟩ = some (.bool n2) ∧ w'.cell? ⟨we.heap.size, 1, none⟩ = some (.slice a6 len6 cap6)) ((refine (fun hbK => And.intro hbK (by exact ⟨(hbK.cell (p := ⟨w.heap.size + 1, 0, none⟩) (by first | assumption | omega | (simp; omega))).trans y2, (hbK.cell (p := ⟨w.heap.size + 1, 1, none⟩) (by first | assumption | omega | (simp; omega))).trans y3, (hbK.cell (p := ⟨we.heap.size, 0, none⟩) (by first | assumption | omega | (simp; omega))).trans t2, (hbK.cell (p := ⟨we.heap.size, 1, none⟩) (by first | assumption | omega | (simp; omega))).trans t3⟩)) ?_; repeat' (first | (with_reducible exact Below.refl _ _) | (with_reducible assumption) | (with_reducible refine Below.alloc ?_ ?_ _) | (with_reducible refine Below.setCell ?_ ?_ _) | (with_reducible refine Below.drew ?_) | (with_reducible refine below_drewN ?_ _) | (apply bthen2; (with_reducible assumption)) | go_size))) ((first | (go_at_call_of 26 (Value.slice a2 len2 cap2); refine (HTY.out _ ?_).mono ?_; (focus (refine Ints.below hY ?_; repeat' (first | (with_reducible exact Below.refl _ _) | (with_reducible assumption) | (with_reducible refine Below.alloc ?_ ?_ _) | (with_reducible refine Below.setCell ?_ ?_ _) | (with_reducible refine Below.drew ?_) | (with_reducible refine below_drewN ?_ _) | (apply bthen2; (with_reducible assumption)) | go_size))); rintro e wg ⟨a7, len7, cap7, rfl, ow7, hb7⟩) | (go_at_call 28; refine (eqWhole_same _ _ _ _ _ _ _ ys _ ?_ ?_).mono ?_; (focus (refine Ints.below h4 ?_; repeat' (first | (with_reducible exact Below.refl _ _) | (with_reducible assumption) | (with_reducible refine Below.alloc ?_ ?_ _) | (with_reducible refine Below.setCell ?_ ?_ _) | (with_reducible refine Below.drew ?_) | (with_reducible refine below_drewN ?_ _) | (apply bthen2; (with_reducible assumption)) | go_size))); (focus (refine Ints.below ow7.ints ?_; repeat' (first | (with_reducible exact Below.refl _ _) | (with_reducible assumption) | (with_reducible refine Below.alloc ?_ ?_ _) | (with_reducible refine Below.setCell ?_ ?_ _) | (with_reducible refine Below.drew ?_) | (with_reducible refine below_drewN ?_ _) | (apply bthen2; (with_reducible assumption)) | go_size))); rintro e wi ⟨rfl, hb8⟩)))
    all_goals (go_wp2; go_ret; exact gives rfl (by repeat' (first | (with_reducible exact Below.refl _ _) | (with_reducible assumption) | (with_reducible refine Below.alloc ?_ ?_ _) | (with_reducible refine Below.setCell ?_ ?_ _) | (with_reducible refine Below.drew ?_) | (with_reducible refine below_drewN ?_ _) | (apply bthen2; (with_reducible assumption)) | go_size)))

end Go.Proofs.Ytiafgfnefhcabaa
