import Derived.Test.YtiafgfnefhcabaaLawW2
import Derived.Test.YtiafgfnefhcabaaRatio
set_option linter.unusedSimpArgs false
set_option linter.unusedVariables false
namespace Go.Proofs.Ytiafgfnefhcabaa
open Go.RowKit

theorem ratB_can {n1 n2 : Bool} {xs ys : List Int} (h : ratB n1 xs n2 ys = true) : Can xs ∧ Can ys ∧ xs.length ≤ 400 ∧ ys.length ≤ 400 := by
  unfold ratB at h
  simp only [Bool.and_eq_true] at h
  obtain ⟨⟨⟨⟨h1, h2⟩, -⟩, -⟩, -⟩ := h
  obtain ⟨a1, a2, -⟩ := whB_can h1
  obtain ⟨b1, b2, -⟩ := whB_can h2
  exact ⟨a1, b1, a2, b2⟩
def rbV (n1 : Bool) (xs : List Int) (n2 : Bool) (ys : List Int) : Value := if ratB n1 xs n2 ys = true then .tuple #[.int .i64 ((max (bl (val xs).toNat) (bl (val ys).toNat) : Nat) : Int), .bool true] else .tuple #[.int .i64 0, .bool false]
theorem rb_0 {n1 n2 : Bool} {xs ys : List Int} (h : ratB n1 xs n2 ys = false) : rbV n1 xs n2 ys = .tuple #[.int .i64 0, .bool false] := by unfold rbV; rw [h]; rfl
theorem rb_1 {n1 n2 : Bool} {xs ys : List Int} (h : ratB n1 xs n2 ys = true) : rbV n1 xs n2 ys = .tuple #[.int .i64 ((max (bl (val xs).toNat) (bl (val ys).toNat) : Nat) : Int), .bool true] := by unfold rbV; rw [h]; rfl
set_option maxHeartbeats 1000000 in
theorem xdBits_any (n1 n2 : Bool) (a a' : Option Addr) (len cap len' cap' : Nat) (xs ys : List Int) (w : World) (hx : Ints w (.slice a len cap) xs) (hy : Ints w (.slice a' len' cap') ys) (rx : InR xs) (ry : InR ys) (lx : xs.length ≤ 1000000) (ly : ys.length ≤ 1000000) : Calls Try.prog 101 #[.agg #[.bool n1, .slice a len cap, .bool n2, .slice a' len' cap']] w (Gives (.int .i64 ((max (bl (val xs).toNat) (bl (val ys).toNat) : Nat) : Int)) w) := by
  have B1 := Lib.hid (fun W h => bgBits_any n1 a len cap xs W h rx lx)
  have B2 := Lib.hid (fun W h => bgBits_any n2 a' len' cap' ys W h ry ly)
  generalize bl (val xs).toNat = P at *
  generalize bl (val ys).toNat = Q at *
  rw [show ((max P Q : Nat) : Int) = max (P : Int) (Q : Int) by omega]
  have HM := Lib.hid (fun w => l1Most_any (P : Int) (Q : Int) w)
  generalize max (P : Int) (Q : Int) = R at *
  clear rx ry lx ly
  go_enter Try.func101, Try.ntmps101
  go_upto_region 1 with fail
  refine name_world (fun W1 hW1 => ?_)
  have z0 : W1.cell? ⟨w.heap.size, 0, none⟩ = some (.bool n1) := by subst hW1; simp [go_sem]
  have z1 : W1.cell? ⟨w.heap.size, 1, none⟩ = some (.slice a len cap) := by subst hW1; simp [go_sem]
  have z2 : W1.cell? ⟨w.heap.size, 2, none⟩ = some (.bool n2) := by subst hW1; simp [go_sem]
  have z3 : W1.cell? ⟨w.heap.size, 3, none⟩ = some (.slice a' len' cap') := by subst hW1; simp [go_sem]
  have hB : Below w.heap.size w W1 := by subst hW1; exact (by repeat' (first | (with_reducible exact Below.refl _ _) | (with_reducible assumption) | (with_reducible refine Below.alloc ?_ ?_ _) | (with_reducible refine Below.setCell ?_ ?_ _) | (with_reducible refine Below.drew ?_) | (with_reducible refine below_drewN ?_ _) | (apply bthen2; (with_reducible assumption)) | go_size))
  have hs0 : w.heap.size < W1.heap.size := by subst hW1; simp
  have gx := Ints.below hx hB
  have gy := Ints.below hy hB
  clear hW1 hx hy
  go_region_held3 (fun w' => Below W1.heap.size W1 w' ∧ w'.cell? ⟨w.heap.size, 0, none⟩ = some (.bool n1) ∧ w'.cell? ⟨w.heap.size, 1, none⟩ = some (.slice a len cap) ∧ w'.cell? ⟨w.heap.size, 2, none⟩ = some (.bool n2) ∧ w'.cell? ⟨w.heap.size, 3, none⟩ = some (.slice a' len' cap')) ((refine (fun hbK => And.intro hbK (by exact ⟨(hbK.cell (p := ⟨w.heap.size, 0, none⟩) (by first | assumption | omega | (simp; omega))).trans z0, (hbK.cell (p := ⟨w.heap.size, 1, none⟩) (by first | assumption | omega | (simp; omega))).trans z1, (hbK.cell (p := ⟨w.heap.size, 2, none⟩) (by first | assumption | omega | (simp; omega))).trans z2, (hbK.cell (p := ⟨w.heap.size, 3, none⟩) (by first | assumption | omega | (simp; omega))).trans z3⟩)) ?_; repeat' (first | (with_reducible exact Below.refl _ _) | (with_reducible assumption) | (with_reducible refine Below.alloc ?_ ?_ _) | (with_reducible refine Below.setCell ?_ ?_ _) | (with_reducible refine Below.drew ?_) | (with_reducible refine below_drewN ?_ _) | (apply bthen2; (with_reducible assumption)) | go_size))) ((first | (go_at_call_of 104 (Value.slice a len cap); refine (B1.out _ ?_).mono ?_; (focus (refine Ints.below gx ?_; repeat' (first | (with_reducible exact Below.refl _ _) | (with_reducible assumption) | (with_reducible refine Below.alloc ?_ ?_ _) | (with_reducible refine Below.setCell ?_ ?_ _) | (with_reducible refine Below.drew ?_) | (with_reducible refine below_drewN ?_ _) | (apply bthen2; (with_reducible assumption)) | go_size))); rintro e wf ⟨rfl, hb5⟩) | (go_at_call_of 104 (Value.slice a' len' cap'); refine (B2.out _ ?_).mono ?_; (focus (refine Ints.below gy ?_; repeat' (first | (with_reducible exact Below.refl _ _) | (with_reducible assumption) | (with_reducible refine Below.alloc ?_ ?_ _) | (with_reducible refine Below.setCell ?_ ?_ _) | (with_reducible refine Below.drew ?_) | (with_reducible refine below_drewN ?_ _) | (apply bthen2; (with_reducible assumption)) | go_size))); rintro e wg ⟨rfl, hb6⟩) | (go_at_call 106; refine (HM.out _).mono ?_; rintro e wh ⟨rfl, rfl⟩)))
  all_goals (go_wp2; go_ret; exact gives rfl (by repeat' (first | (with_reducible exact Below.refl _ _) | (with_reducible assumption) | (with_reducible refine Below.alloc ?_ ?_ _) | (with_reducible refine Below.setCell ?_ ?_ _) | (with_reducible refine Below.drew ?_) | (with_reducible refine below_drewN ?_ _) | (apply bthen2; (with_reducible assumption)) | go_size)))
set_option maxHeartbeats 1000000 in
theorem RatioBits_any (n1 n2 : Bool) (a a' : Option Addr) (len cap len' cap' : Nat) (xs ys : List Int) (w : World) (hx : Ints w (.slice a len cap) xs) (hy : Ints w (.slice a' len' cap') ys) : Calls Try.prog 60 #[.agg #[.bool n1, .slice a len cap, .bool n2, .slice a' len' cap']] w (Gives (rbV n1 xs n2 ys) w) := by
  have HG := Lib.hid (fun W h h' => isRatio_any n1 n2 a a' len cap len' cap' xs ys W h h')
  have HX := Lib.hid hx; have HY := Lib.hid hy
  clear hx hy
  cases g : ratB n1 xs n2 ys
  · rw [rb_0 g]
    rw [g] at HG
    go_enter Try.func60, Try.ntmps60
    go_wp2_with fail
    refine (HG.out _ ?_ ?_).mono ?_
    · refine Ints.below HX.out ?_; repeat' (first | (with_reducible exact Below.refl _ _) | (with_reducible assumption) | (with_reducible refine Below.alloc ?_ ?_ _) | (with_reducible refine Below.setCell ?_ ?_ _) | (with_reducible refine Below.drew ?_) | (with_reducible refine below_drewN ?_ _) | (apply bthen2; (with_reducible assumption)) | go_size)
    · refine Ints.below HY.out ?_; repeat' (first | (with_reducible exact Below.refl _ _) | (with_reducible assumption) | (with_reducible refine Below.alloc ?_ ?_ _) | (with_reducible refine Below.setCell ?_ ?_ _) | (with_reducible refine Below.drew ?_) | (with_reducible refine below_drewN ?_ _) | (apply bthen2; (with_reducible assumption)) | go_size)
    rintro e wa ⟨rfl, hba⟩; have hza := hba.size; (try simp only [World.size_alloc, World.size_setCell, World.size_drew, World.heap_drewN] at hza); try (refine keepc hba (w.heap.size) ?_ ?_; (focus (first | omega | (simp <;> omega))); intro hca_0 hfa_0 hla_0); try (refine keepc hba (w.heap.size + 1) ?_ ?_; (focus (first | omega | (simp <;> omega))); intro hca_1 hfa_1 hla_1); try (refine keepc hba (w.heap.size + 1 + 1) ?_ ?_; (focus (first | omega | (simp <;> omega))); intro hca_2 hfa_2 hla_2)
    go_wp2
    go_ret2
    exact gives rfl (by repeat' (first | (with_reducible exact Below.refl _ _) | (with_reducible assumption) | (with_reducible refine Below.alloc ?_ ?_ _) | (with_reducible refine Below.setCell ?_ ?_ _) | (with_reducible refine Below.drew ?_) | (with_reducible refine below_drewN ?_ _) | (apply bthen2; (with_reducible assumption)) | go_size))
  · rw [rb_1 g]
    rw [g] at HG
    obtain ⟨c1, c2, c3, c4⟩ := ratB_can g
    have B1 := Lib.hid (fun W h => bitLength_any n1 a len cap xs W h c1.1 (by omega))
    have B2 := Lib.hid (fun W h => bitLength_any n2 a' len' cap' ys W h c2.1 (by omega))
    generalize bl (val xs).toNat = P at *
    generalize bl (val ys).toNat = Q at *
    rw [show ((max P Q : Nat) : Int) = max (P : Int) (Q : Int) by omega]
    clear c1 c2 c3 c4 g
    go_enter Try.func60, Try.ntmps60
    go_wp2_with fail
    refine (HG.out _ ?_ ?_).mono ?_
    · refine Ints.below HX.out ?_; repeat' (first | (with_reducible exact Below.refl _ _) | (with_reducible assumption) | (with_reducible refine Below.alloc ?_ ?_ _) | (with_reducible refine Below.setCell ?_ ?_ _) | (with_reducible refine Below.drew ?_) | (with_reducible refine below_drewN ?_ _) | (apply bthen2; (with_reducible assumption)) | go_size)
    · refine Ints.below HY.out ?_; repeat' (first | (with_reducible exact Below.refl _ _) | (with_reducible assumption) | (with_reducible refine Below.alloc ?_ ?_ _) | (with_reducible refine Below.setCell ?_ ?_ _) | (with_reducible refine Below.drew ?_) | (with_reducible refine below_drewN ?_ _) | (apply bthen2; (with_reducible assumption)) | go_size)
    rintro e wa ⟨rfl, hba⟩; have hza := hba.size; (try simp only [World.size_alloc, World.size_setCell, World.size_drew, World.heap_drewN] at hza); try (refine keepc hba (w.heap.size) ?_ ?_; (focus (first | omega | (simp <;> omega))); intro hca_0 hfa_0 hla_0); try (refine keepc hba (w.heap.size + 1) ?_ ?_; (focus (first | omega | (simp <;> omega))); intro hca_1 hfa_1 hla_1); try (refine keepc hba (w.heap.size + 1 + 1) ?_ ?_; (focus (first | omega | (simp <;> omega))); intro hca_2 hfa_2 hla_2)
    go_upto_region 3 with fail
    have z0 : wa.cell? ⟨w.heap.size, 0, none⟩ = some (.bool n1) := by simp [hca_0, go_sem]
    have z1 : wa.cell? ⟨w.heap.size, 1, none⟩ = some (.slice a len cap) := by simp [hca_0, go_sem]
    have z2 : wa.cell? ⟨w.heap.size, 2, none⟩ = some (.bool n2) := by simp [hca_0, go_sem]
    have z3 : wa.cell? ⟨w.heap.size, 3, none⟩ = some (.slice a' len' cap') := by simp [hca_0, go_sem]
    have gx := Ints.below HX.out (w' := wa) (by repeat' (first | (with_reducible exact Below.refl _ _) | (with_reducible assumption) | (with_reducible refine Below.alloc ?_ ?_ _) | (with_reducible refine Below.setCell ?_ ?_ _) | (with_reducible refine Below.drew ?_) | (with_reducible refine below_drewN ?_ _) | (apply bthen2; (with_reducible assumption)) | go_size))
    have gy := Ints.below HY.out (w' := wa) (by repeat' (first | (with_reducible exact Below.refl _ _) | (with_reducible assumption) | (with_reducible refine Below.alloc ?_ ?_ _) | (with_reducible refine Below.setCell ?_ ?_ _) | (with_reducible refine Below.drew ?_) | (with_reducible refine below_drewN ?_ _) | (apply bthen2; (with_reducible assumption)) | go_size))
    have hB : Below w.heap.size w wa := (by repeat' (first | (with_reducible exact Below.refl _ _) | (with_reducible assumption) | (with_reducible refine Below.alloc ?_ ?_ _) | (with_reducible refine Below.setCell ?_ ?_ _) | (with_reducible refine Below.drew ?_) | (with_reducible refine below_drewN ?_ _) | (apply bthen2; (with_reducible assumption)) | go_size))
    have hs0 : w.heap.size < wa.heap.size := hla_0
    clear hca_0 hfa_0 hla_0 hba hza HG
    go_region_held3 (fun w' => Below wa.heap.size wa w' ∧ w'.cell? ⟨w.heap.size, 0, none⟩ = some (.bool n1) ∧ w'.cell? ⟨w.heap.size, 1, none⟩ = some (.slice a len cap) ∧ w'.cell? ⟨w.heap.size, 2, none⟩ = some (.bool n2) ∧ w'.cell? ⟨w.heap.size, 3, none⟩ = some (.slice a' len' cap')) ((refine (fun hbK => And.intro hbK (by exact ⟨(hbK.cell (p := ⟨w.heap.size, 0, none⟩) (by first | assumption | omega | (simp; omega))).trans z0, (hbK.cell (p := ⟨w.heap.size, 1, none⟩) (by first | assumption | omega | (simp; omega))).trans z1, (hbK.cell (p := ⟨w.heap.size, 2, none⟩) (by first | assumption | omega | (simp; omega))).trans z2, (hbK.cell (p := ⟨w.heap.size, 3, none⟩) (by first | assumption | omega | (simp; omega))).trans z3⟩)) ?_; repeat' (first | (with_reducible exact Below.refl _ _) | (with_reducible assumption) | (with_reducible refine Below.alloc ?_ ?_ _) | (with_reducible refine Below.setCell ?_ ?_ _) | (with_reducible refine Below.drew ?_) | (with_reducible refine below_drewN ?_ _) | (apply bthen2; (with_reducible assumption)) | go_size))) ((first | (go_at_call_of 100 (Value.slice a len cap); refine (B1.out _ ?_).mono ?_; (focus (refine Ints.below gx ?_; repeat' (first | (with_reducible exact Below.refl _ _) | (with_reducible assumption) | (with_reducible refine Below.alloc ?_ ?_ _) | (with_reducible refine Below.setCell ?_ ?_ _) | (with_reducible refine Below.drew ?_) | (with_reducible refine below_drewN ?_ _) | (apply bthen2; (with_reducible assumption)) | go_size))); rintro e wf ⟨rfl, hb5⟩) | (go_at_call_of 100 (Value.slice a' len' cap'); refine (B2.out _ ?_).mono ?_; (focus (refine Ints.below gy ?_; repeat' (first | (with_reducible exact Below.refl _ _) | (with_reducible assumption) | (with_reducible refine Below.alloc ?_ ?_ _) | (with_reducible refine Below.setCell ?_ ?_ _) | (with_reducible refine Below.drew ?_) | (with_reducible refine below_drewN ?_ _) | (apply bthen2; (with_reducible assumption)) | go_size))); rintro e wg ⟨rfl, hb6⟩)))
    all_goals (go_wp2; go_ret2; exact gives rfl (by repeat' (first | (with_reducible exact Below.refl _ _) | (with_reducible assumption) | (with_reducible refine Below.alloc ?_ ?_ _) | (with_reducible refine Below.setCell ?_ ?_ _) | (with_reducible refine Below.drew ?_) | (with_reducible refine below_drewN ?_ _) | (apply bthen2; (with_reducible assumption)) | go_size)))
set_option maxHeartbeats 1000000 in
theorem sRatioBits_any (n1 n2 : Bool) (a a' : Option Addr) (len cap len' cap' : Nat) (xs ys : List Int) (w : World) (hx : Ints w (.slice a len cap) xs) (hy : Ints w (.slice a' len' cap') ys) : Calls Try.prog 59 #[.agg #[.bool n1, .slice a len cap, .bool n2, .slice a' len' cap']] w (Gives (rbV n1 xs n2 ys) w) := by
  have HG := Lib.hid (fun W h h' => xdGood_any n1 n2 a a' len cap len' cap' xs ys W h h')
  have HX := Lib.hid hx; have HY := Lib.hid hy
  clear hx hy
  cases g : ratB n1 xs n2 ys
  · rw [rb_0 g]
    rw [g] at HG
    go_enter Try.func59, Try.ntmps59
    go_wp2_with fail
    refine (HG.out _ ?_ ?_).mono ?_
    · refine Ints.below HX.out ?_; repeat' (first | (with_reducible exact Below.refl _ _) | (with_reducible assumption) | (with_reducible refine Below.alloc ?_ ?_ _) | (with_reducible refine Below.setCell ?_ ?_ _) | (with_reducible refine Below.drew ?_) | (with_reducible refine below_drewN ?_ _) | (apply bthen2; (with_reducible assumption)) | go_size)
    · refine Ints.below HY.out ?_; repeat' (first | (with_reducible exact Below.refl _ _) | (with_reducible assumption) | (with_reducible refine Below.alloc ?_ ?_ _) | (with_reducible refine Below.setCell ?_ ?_ _) | (with_reducible refine Below.drew ?_) | (with_reducible refine below_drewN ?_ _) | (apply bthen2; (with_reducible assumption)) | go_size)
    rintro e wa ⟨rfl, hba⟩; have hza := hba.size; (try simp only [World.size_alloc, World.size_setCell, World.size_drew, World.heap_drewN] at hza); try (refine keepc hba (w.heap.size) ?_ ?_; (focus (first | omega | (simp <;> omega))); intro hca_0 hfa_0 hla_0); try (refine keepc hba (w.heap.size + 1) ?_ ?_; (focus (first | omega | (simp <;> omega))); intro hca_1 hfa_1 hla_1); try (refine keepc hba (w.heap.size + 1 + 1) ?_ ?_; (focus (first | omega | (simp <;> omega))); intro hca_2 hfa_2 hla_2)
    go_wp2
    go_ret2
    exact gives rfl (by repeat' (first | (with_reducible exact Below.refl _ _) | (with_reducible assumption) | (with_reducible refine Below.alloc ?_ ?_ _) | (with_reducible refine Below.setCell ?_ ?_ _) | (with_reducible refine Below.drew ?_) | (with_reducible refine below_drewN ?_ _) | (apply bthen2; (with_reducible assumption)) | go_size))
  · rw [rb_1 g]
    rw [g] at HG
    obtain ⟨c1, c2, c3, c4⟩ := ratB_can g
    have HB := Lib.hid (fun W h h' => xdBits_any n1 n2 a a' len cap len' cap' xs ys W h h' c1.1 c2.1 (by omega) (by omega))
    generalize max (bl (val xs).toNat) (bl (val ys).toNat) = R at *
    clear c1 c2 c3 c4 g
    go_enter Try.func59, Try.ntmps59
    go_wp2_with fail
    refine (HG.out _ ?_ ?_).mono ?_
    · refine Ints.below HX.out ?_; repeat' (first | (with_reducible exact Below.refl _ _) | (with_reducible assumption) | (with_reducible refine Below.alloc ?_ ?_ _) | (with_reducible refine Below.setCell ?_ ?_ _) | (with_reducible refine Below.drew ?_) | (with_reducible refine below_drewN ?_ _) | (apply bthen2; (with_reducible assumption)) | go_size)
    · refine Ints.below HY.out ?_; repeat' (first | (with_reducible exact Below.refl _ _) | (with_reducible assumption) | (with_reducible refine Below.alloc ?_ ?_ _) | (with_reducible refine Below.setCell ?_ ?_ _) | (with_reducible refine Below.drew ?_) | (with_reducible refine below_drewN ?_ _) | (apply bthen2; (with_reducible assumption)) | go_size)
    rintro e wa ⟨rfl, hba⟩; have hza := hba.size; (try simp only [World.size_alloc, World.size_setCell, World.size_drew, World.heap_drewN] at hza); try (refine keepc hba (w.heap.size) ?_ ?_; (focus (first | omega | (simp <;> omega))); intro hca_0 hfa_0 hla_0); try (refine keepc hba (w.heap.size + 1) ?_ ?_; (focus (first | omega | (simp <;> omega))); intro hca_1 hfa_1 hla_1); try (refine keepc hba (w.heap.size + 1 + 1) ?_ ?_; (focus (first | omega | (simp <;> omega))); intro hca_2 hfa_2 hla_2)
    go_wp2_with fail
    refine (HB.out _ ?_ ?_).mono ?_
    · refine Ints.below HX.out ?_; repeat' (first | (with_reducible exact Below.refl _ _) | (with_reducible assumption) | (with_reducible refine Below.alloc ?_ ?_ _) | (with_reducible refine Below.setCell ?_ ?_ _) | (with_reducible refine Below.drew ?_) | (with_reducible refine below_drewN ?_ _) | (apply bthen2; (with_reducible assumption)) | go_size)
    · refine Ints.below HY.out ?_; repeat' (first | (with_reducible exact Below.refl _ _) | (with_reducible assumption) | (with_reducible refine Below.alloc ?_ ?_ _) | (with_reducible refine Below.setCell ?_ ?_ _) | (with_reducible refine Below.drew ?_) | (with_reducible refine below_drewN ?_ _) | (apply bthen2; (with_reducible assumption)) | go_size)
    rintro e wb ⟨rfl, hbb⟩; have hzb := hbb.size; (try simp only [World.size_alloc, World.size_setCell, World.size_drew, World.heap_drewN] at hzb); try (refine keepc hbb (w.heap.size) ?_ ?_; (focus (first | omega | (simp <;> omega))); intro hcb_0 hfb_0 hlb_0); try (refine keepc hbb (w.heap.size + 1) ?_ ?_; (focus (first | omega | (simp <;> omega))); intro hcb_1 hfb_1 hlb_1); try (refine keepc hbb (w.heap.size + 1 + 1) ?_ ?_; (focus (first | omega | (simp <;> omega))); intro hcb_2 hfb_2 hlb_2)
    go_wp2
    go_ret2
    exact gives rfl (by repeat' (first | (with_reducible exact Below.refl _ _) | (with_reducible assumption) | (with_reducible refine Below.alloc ?_ ?_ _) | (with_reducible refine Below.setCell ?_ ?_ _) | (with_reducible refine Below.drew ?_) | (with_reducible refine below_drewN ?_ _) | (apply bthen2; (with_reducible assumption)) | go_size))

set_option maxHeartbeats 2000000 in
theorem walk_FnExactRatioBits (n1 : Bool) (a : Option Addr) (len cap : Nat) (xs : List Int) (n2 : Bool) (a' : Option Addr) (len' cap' : Nat) (ys : List Int) (w : World) (hx : Ints w (.slice a len cap) xs) (hy : Ints w (.slice a' len' cap') ys) : Calls Try.prog 14 #[.agg #[.bool n1, .slice a len cap, .bool n2, .slice a' len' cap']] w (Gives (.bool true) w) := by
  have HS := Lib.hid (fun W h h' => szRatio_any n1 n2 a a' len cap len' cap' xs ys 1048576 (by decide) (by decide) W h h')
  by_cases g : szR xs ys 1048576 < 0
  · generalize szR xs ys 1048576 = L at *
    go_enter Try.func14, Try.ntmps14
    go_wp2_with (first | (go_at_call 49; refine (HS.out _ ?_ ?_).mono ?_; (focus (refine Ints.below hx ?_; repeat' (first | (with_reducible exact Below.refl _ _) | (with_reducible assumption) | (with_reducible refine Below.alloc ?_ ?_ _) | (with_reducible refine Below.setCell ?_ ?_ _) | (with_reducible refine Below.drew ?_) | (with_reducible refine below_drewN ?_ _) | (apply bthen2; (with_reducible assumption)) | go_size))); (focus (refine Ints.below hy ?_; repeat' (first | (with_reducible exact Below.refl _ _) | (with_reducible assumption) | (with_reducible refine Below.alloc ?_ ?_ _) | (with_reducible refine Below.setCell ?_ ?_ _) | (with_reducible refine Below.drew ?_) | (with_reducible refine below_drewN ?_ _) | (apply bthen2; (with_reducible assumption)) | go_size))); rintro e wa ⟨rfl, hba⟩; have hza := hba.size; (try simp only [World.size_alloc, World.size_setCell, World.size_drew, World.heap_drewN] at hza); try (refine keepc hba (w.heap.size) ?_ ?_; (focus (first | omega | (simp <;> omega))); intro hca_0 hfa_0 hla_0); try (refine keepc hba (w.heap.size + 1) ?_ ?_; (focus (first | omega | (simp <;> omega))); intro hca_1 hfa_1 hla_1); try (refine keepc hba (w.heap.size + 1 + 1) ?_ ?_; (focus (first | omega | (simp <;> omega))); intro hca_2 hfa_2 hla_2)))
    go_ret; exact gives rfl (by repeat' (first | (with_reducible exact Below.refl _ _) | (with_reducible assumption) | (with_reducible refine Below.alloc ?_ ?_ _) | (with_reducible refine Below.setCell ?_ ?_ _) | (with_reducible refine Below.drew ?_) | (with_reducible refine below_drewN ?_ _) | (apply bthen2; (with_reducible assumption)) | go_size))
  · have hn : xs.length ≤ 1048576 ∧ ys.length ≤ 1048576 := by
      unfold szR szL at g
      split at g <;> split at g <;> (try split at g) <;> omega
    obtain ⟨hn1, hn2⟩ := hn
    obtain ⟨r0, r1, hr⟩ : ∃ r0 r1, rbV n1 xs n2 ys = .tuple #[.int .i64 r0, .bool r1] := by unfold rbV; split <;> exact ⟨_, _, rfl⟩
    have him := fun a a' len cap len' cap' W h h' => RatioBits_any n1 n2 a a' len cap len' cap' xs ys W h h'
    have hsp := fun a a' len cap len' cap' W h h' => sRatioBits_any n1 n2 a a' len cap len' cap' xs ys W h h'
    rw [hr] at him hsp
    have HIM := Lib.hid him; have HSP := Lib.hid hsp
    clear hr him hsp
    generalize szR xs ys 1048576 = L at *
    go_enter Try.func14, Try.ntmps14
    go_wp2_with (first | (go_at_call 49; refine (HS.out _ ?_ ?_).mono ?_; (focus (refine Ints.below hx ?_; repeat' (first | (with_reducible exact Below.refl _ _) | (with_reducible assumption) | (with_reducible refine Below.alloc ?_ ?_ _) | (with_reducible refine Below.setCell ?_ ?_ _) | (with_reducible refine Below.drew ?_) | (with_reducible refine below_drewN ?_ _) | (apply bthen2; (with_reducible assumption)) | go_size))); (focus (refine Ints.below hy ?_; repeat' (first | (with_reducible exact Below.refl _ _) | (with_reducible assumption) | (with_reducible refine Below.alloc ?_ ?_ _) | (with_reducible refine Below.setCell ?_ ?_ _) | (with_reducible refine Below.drew ?_) | (with_reducible refine below_drewN ?_ _) | (apply bthen2; (with_reducible assumption)) | go_size))); rintro e wa ⟨rfl, hba⟩; have hza := hba.size; (try simp only [World.size_alloc, World.size_setCell, World.size_drew, World.heap_drewN] at hza); try (refine keepc hba (w.heap.size) ?_ ?_; (focus (first | omega | (simp <;> omega))); intro hca_0 hfa_0 hla_0); try (refine keepc hba (w.heap.size + 1) ?_ ?_; (focus (first | omega | (simp <;> omega))); intro hca_1 hfa_1 hla_1); try (refine keepc hba (w.heap.size + 1 + 1) ?_ ?_; (focus (first | omega | (simp <;> omega))); intro hca_2 hfa_2 hla_2)))
    refine (toRatio_any _ _ _ _ _ _ _ _ xs ys _ ?_ ?_ hn1 hn2).mono ?_
    · refine Ints.below hx ?_; repeat' (first | (with_reducible exact Below.refl _ _) | (with_reducible assumption) | (with_reducible refine Below.alloc ?_ ?_ _) | (with_reducible refine Below.setCell ?_ ?_ _) | (with_reducible refine Below.drew ?_) | (with_reducible refine below_drewN ?_ _) | (apply bthen2; (with_reducible assumption)) | go_size)
    · refine Ints.below hy ?_; repeat' (first | (with_reducible exact Below.refl _ _) | (with_reducible assumption) | (with_reducible refine Below.alloc ?_ ?_ _) | (with_reducible refine Below.setCell ?_ ?_ _) | (with_reducible refine Below.drew ?_) | (with_reducible refine below_drewN ?_ _) | (apply bthen2; (with_reducible assumption)) | go_size)
    rintro e wb ⟨a1, len1, cap1, a2, len2, cap2, rfl, hi1, hi2, hbb⟩
    have hzb := hbb.size; (try simp only [World.size_alloc, World.size_setCell, World.size_drew, World.heap_drewN] at hzb); try (refine keepc hbb (w.heap.size) ?_ ?_; (focus (first | omega | (simp <;> omega))); intro hcb_0 hfb_0 hlb_0); try (refine keepc hbb (w.heap.size + 1) ?_ ?_; (focus (first | omega | (simp <;> omega))); intro hcb_1 hfb_1 hlb_1); try (refine keepc hbb (w.heap.size + 1 + 1) ?_ ?_; (focus (first | omega | (simp <;> omega))); intro hcb_2 hfb_2 hlb_2)
    go_wp2_with fail
    refine (HSP.out _ _ _ _ _ _ _ ?_ ?_).mono ?_
    · refine Ints.below hi1 ?_; repeat' (first | (with_reducible exact Below.refl _ _) | (with_reducible assumption) | (with_reducible refine Below.alloc ?_ ?_ _) | (with_reducible refine Below.setCell ?_ ?_ _) | (with_reducible refine Below.drew ?_) | (with_reducible refine below_drewN ?_ _) | (apply bthen2; (with_reducible assumption)) | go_size)
    · refine Ints.below hi2 ?_; repeat' (first | (with_reducible exact Below.refl _ _) | (with_reducible assumption) | (with_reducible refine Below.alloc ?_ ?_ _) | (with_reducible refine Below.setCell ?_ ?_ _) | (with_reducible refine Below.drew ?_) | (with_reducible refine below_drewN ?_ _) | (apply bthen2; (with_reducible assumption)) | go_size)
    rintro e wc ⟨rfl, hbc⟩
    have hzc := hbc.size; (try simp only [World.size_alloc, World.size_setCell, World.size_drew, World.heap_drewN] at hzc); try (refine keepc hbc (w.heap.size) ?_ ?_; (focus (first | omega | (simp <;> omega))); intro hcc_0 hfc_0 hlc_0); try (refine keepc hbc (w.heap.size + 1) ?_ ?_; (focus (first | omega | (simp <;> omega))); intro hcc_1 hfc_1 hlc_1); try (refine keepc hbc (w.heap.size + 1 + 1) ?_ ?_; (focus (first | omega | (simp <;> omega))); intro hcc_2 hfc_2 hlc_2)
    go_wp2_with fail
    refine (toRatio_any _ _ _ _ _ _ _ _ xs ys _ ?_ ?_ hn1 hn2).mono ?_
    · refine Ints.below hx ?_; repeat' (first | (with_reducible exact Below.refl _ _) | (with_reducible assumption) | (with_reducible refine Below.alloc ?_ ?_ _) | (with_reducible refine Below.setCell ?_ ?_ _) | (with_reducible refine Below.drew ?_) | (with_reducible refine below_drewN ?_ _) | (apply bthen2; (with_reducible assumption)) | go_size)
    · refine Ints.below hy ?_; repeat' (first | (with_reducible exact Below.refl _ _) | (with_reducible assumption) | (with_reducible refine Below.alloc ?_ ?_ _) | (with_reducible refine Below.setCell ?_ ?_ _) | (with_reducible refine Below.drew ?_) | (with_reducible refine below_drewN ?_ _) | (apply bthen2; (with_reducible assumption)) | go_size)
    rintro e wd ⟨a3, len3, cap3, a4, len4, cap4, rfl, hi3, hi4, hbd⟩
    have hzd := hbd.size; (try simp only [World.size_alloc, World.size_setCell, World.size_drew, World.heap_drewN] at hzd); try (refine keepc hbd (w.heap.size) ?_ ?_; (focus (first | omega | (simp <;> omega))); intro hcd_0 hfd_0 hld_0); try (refine keepc hbd (w.heap.size + 1) ?_ ?_; (focus (first | omega | (simp <;> omega))); intro hcd_1 hfd_1 hld_1); try (refine keepc hbd (w.heap.size + 1 + 1) ?_ ?_; (focus (first | omega | (simp <;> omega))); intro hcd_2 hfd_2 hld_2)
    go_wp2_with fail
    refine (HIM.out _ _ _ _ _ _ _ ?_ ?_).mono ?_
    · refine Ints.below hi3 ?_; repeat' (first | (with_reducible exact Below.refl _ _) | (with_reducible assumption) | (with_reducible refine Below.alloc ?_ ?_ _) | (with_reducible refine Below.setCell ?_ ?_ _) | (with_reducible refine Below.drew ?_) | (with_reducible refine below_drewN ?_ _) | (apply bthen2; (with_reducible assumption)) | go_size)
    · refine Ints.below hi4 ?_; repeat' (first | (with_reducible exact Below.refl _ _) | (with_reducible assumption) | (with_reducible refine Below.alloc ?_ ?_ _) | (with_reducible refine Below.setCell ?_ ?_ _) | (with_reducible refine Below.drew ?_) | (with_reducible refine below_drewN ?_ _) | (apply bthen2; (with_reducible assumption)) | go_size)
    rintro e we ⟨rfl, hbe⟩
    have hze := hbe.size; (try simp only [World.size_alloc, World.size_setCell, World.size_drew, World.heap_drewN] at hze); try (refine keepc hbe (w.heap.size) ?_ ?_; (focus (first | omega | (simp <;> omega))); intro hce_0 hfe_0 hle_0); try (refine keepc hbe (w.heap.size + 1) ?_ ?_; (focus (first | omega | (simp <;> omega))); intro hce_1 hfe_1 hle_1); try (refine keepc hbe (w.heap.size + 1 + 1) ?_ ?_; (focus (first | omega | (simp <;> omega))); intro hce_2 hfe_2 hle_2)
    refine keepc hbe wd.heap.size ?_ ?_
    · simp
    intro hcx hfx hlx
    go_wp2_with fail
    clear HS HIM HSP
    have z0 : we.cell? ⟨w.heap.size, 0, none⟩ = some (.bool n1) := by simp [hce_0, hcd_0, hcc_0, hcb_0, hca_0, hld_0, hlc_0, hlb_0, hla_0, go_sem]
    have z1 : we.cell? ⟨w.heap.size, 1, none⟩ = some (.slice a len cap) := by simp [hce_0, hcd_0, hcc_0, hcb_0, hca_0, hld_0, hlc_0, hlb_0, hla_0, go_sem]
    have z2 : we.cell? ⟨w.heap.size, 2, none⟩ = some (.bool n2) := by simp [hce_0, hcd_0, hcc_0, hcb_0, hca_0, hld_0, hlc_0, hlb_0, hla_0, go_sem]
    have z3 : we.cell? ⟨w.heap.size, 3, none⟩ = some (.slice a' len' cap') := by simp [hce_0, hcd_0, hcc_0, hcb_0, hca_0, hld_0, hlc_0, hlb_0, hla_0, go_sem]
    have x0 : we.cell? ⟨wd.heap.size, 0, none⟩ = some (.bool n1) := by rw [hcx]; simp
    have x1 : we.cell? ⟨wd.heap.size, 1, none⟩ = some (.slice a3 len3 cap3) := by rw [hcx]; simp
    have x2 : we.cell? ⟨wd.heap.size, 2, none⟩ = some (.bool n2) := by rw [hcx]; simp
    have x3 : we.cell? ⟨wd.heap.size, 3, none⟩ = some (.slice a4 len4 cap4) := by rw [hcx]; simp
    have gx := Ints.below hx (w' := we) (by repeat' (first | (with_reducible exact Below.refl _ _) | (with_reducible assumption) | (with_reducible refine Below.alloc ?_ ?_ _) | (with_reducible refine Below.setCell ?_ ?_ _) | (with_reducible refine Below.drew ?_) | (with_reducible refine below_drewN ?_ _) | (apply bthen2; (with_reducible assumption)) | go_size))
    have gy := Ints.below hy (w' := we) (by repeat' (first | (with_reducible exact Below.refl _ _) | (with_reducible assumption) | (with_reducible refine Below.alloc ?_ ?_ _) | (with_reducible refine Below.setCell ?_ ?_ _) | (with_reducible refine Below.drew ?_) | (with_reducible refine below_drewN ?_ _) | (apply bthen2; (with_reducible assumption)) | go_size))
    have g3 := Ints.below hi3 (w' := we) (by repeat' (first | (with_reducible exact Below.refl _ _) | (with_reducible assumption) | (with_reducible refine Below.alloc ?_ ?_ _) | (with_reducible refine Below.setCell ?_ ?_ _) | (with_reducible refine Below.drew ?_) | (with_reducible refine below_drewN ?_ _) | (apply bthen2; (with_reducible assumption)) | go_size))
    have g4 := Ints.below hi4 (w' := we) (by repeat' (first | (with_reducible exact Below.refl _ _) | (with_reducible assumption) | (with_reducible refine Below.alloc ?_ ?_ _) | (with_reducible refine Below.setCell ?_ ?_ _) | (with_reducible refine Below.drew ?_) | (with_reducible refine below_drewN ?_ _) | (apply bthen2; (with_reducible assumption)) | go_size))
    have q1 : w.heap.size < we.heap.size := by omega
    have q2 : wd.heap.size < we.heap.size := by omega
    clear hcx hfx hlx
    go_region_held3 (fun w' => Below we.heap.size we w' ∧ w'.cell? ⟨w.heap.size, 0, none⟩ = some (.bool n1) ∧ w'.cell? ⟨w.heap.size, 1, none⟩ = some (.slice a len cap) ∧ w'.cell? ⟨w.heap.size, 2, none⟩ = some (.bool n2) ∧ w'.cell? ⟨w.heap.size, 3, none⟩ = some (.slice a' len' cap') ∧ w'.cell? ⟨wd.heap.size, 0, none⟩ = some (.bool n1) ∧ w'.cell? ⟨wd.heap.size, 1, none⟩ = some (.slice a3 len3 cap3) ∧ w'.cell? ⟨wd.heap.size, 2, none⟩ = some (.bool n2) ∧ w'.cell? ⟨wd.heap.size, 3, none⟩ = some (.slice a4 len4 cap4)) ((refine (fun hbK => And.intro hbK (by exact ⟨(hbK.cell (p := ⟨w.heap.size, 0, none⟩) (by first | assumption | omega | (simp; omega))).trans z0, (hbK.cell (p := ⟨w.heap.size, 1, none⟩) (by first | assumption | omega | (simp; omega))).trans z1, (hbK.cell (p := ⟨w.heap.size, 2, none⟩) (by first | assumption | omega | (simp; omega))).trans z2, (hbK.cell (p := ⟨w.heap.size, 3, none⟩) (by first | assumption | omega | (simp; omega))).trans z3, (hbK.cell (p := ⟨wd.heap.size, 0, none⟩) (by first | assumption | omega | (simp; omega))).trans x0, (hbK.cell (p := ⟨wd.heap.size, 1, none⟩) (by first | assumption | omega | (simp; omega))).trans x1, (hbK.cell (p := ⟨wd.heap.size, 2, none⟩) (by first | assumption | omega | (simp; omega))).trans x2, (hbK.cell (p := ⟨wd.heap.size, 3, none⟩) (by first | assumption | omega | (simp; omega))).trans x3⟩)) ?_; repeat' (first | (with_reducible exact Below.refl _ _) | (with_reducible assumption) | (with_reducible refine Below.alloc ?_ ?_ _) | (with_reducible refine Below.setCell ?_ ?_ _) | (with_reducible refine Below.drew ?_) | (with_reducible refine below_drewN ?_ _) | (apply bthen2; (with_reducible assumption)) | go_size))) ((first | (go_at_call 51; refine (toRatio_any _ _ _ _ _ _ _ _ xs ys _ ?_ ?_ hn1 hn2).mono ?_; (focus (refine Ints.below gx ?_; repeat' (first | (with_reducible exact Below.refl _ _) | (with_reducible assumption) | (with_reducible refine Below.alloc ?_ ?_ _) | (with_reducible refine Below.setCell ?_ ?_ _) | (with_reducible refine Below.drew ?_) | (with_reducible refine below_drewN ?_ _) | (apply bthen2; (with_reducible assumption)) | go_size))); (focus (refine Ints.below gy ?_; repeat' (first | (with_reducible exact Below.refl _ _) | (with_reducible assumption) | (with_reducible refine Below.alloc ?_ ?_ _) | (with_reducible refine Below.setCell ?_ ?_ _) | (with_reducible refine Below.drew ?_) | (with_reducible refine below_drewN ?_ _) | (apply bthen2; (with_reducible assumption)) | go_size))); rintro e wf ⟨a5, len5, cap5, a6, len6, cap6, rfl, hi5, hi6, hbf⟩) | (go_at_call 21; refine (eqRatio_same _ _ _ _ _ _ _ _ _ _ _ _ _ _ xs ys _ ?_ ?_ ?_ ?_).mono ?_; (focus (refine Ints.below g3 ?_; repeat' (first | (with_reducible exact Below.refl _ _) | (with_reducible assumption) | (with_reducible refine Below.alloc ?_ ?_ _) | (with_reducible refine Below.setCell ?_ ?_ _) | (with_reducible refine Below.drew ?_) | (with_reducible refine below_drewN ?_ _) | (apply bthen2; (with_reducible assumption)) | go_size))); (focus (refine Ints.below g4 ?_; repeat' (first | (with_reducible exact Below.refl _ _) | (with_reducible assumption) | (with_reducible refine Below.alloc ?_ ?_ _) | (with_reducible refine Below.setCell ?_ ?_ _) | (with_reducible refine Below.drew ?_) | (with_reducible refine below_drewN ?_ _) | (apply bthen2; (with_reducible assumption)) | go_size))); (focus (refine Ints.below hi5 ?_; repeat' (first | (with_reducible exact Below.refl _ _) | (with_reducible assumption) | (with_reducible refine Below.alloc ?_ ?_ _) | (with_reducible refine Below.setCell ?_ ?_ _) | (with_reducible refine Below.drew ?_) | (with_reducible refine below_drewN ?_ _) | (apply bthen2; (with_reducible assumption)) | go_size))); (focus (refine Ints.below hi6 ?_; repeat' (first | (with_reducible exact Below.refl _ _) | (with_reducible assumption) | (with_reducible refine Below.alloc ?_ ?_ _) | (with_reducible refine Below.setCell ?_ ?_ _) | (with_reducible refine Below.drew ?_) | (with_reducible refine below_drewN ?_ _) | (apply bthen2; (with_reducible assumption)) | go_size))); rintro e wg ⟨rfl, hbg⟩)))
    all_goals (go_wp2; go_ret; exact gives rfl (by repeat' (first | (with_reducible exact Below.refl _ _) | (with_reducible assumption) | (with_reducible refine Below.alloc ?_ ?_ _) | (with_reducible refine Below.setCell ?_ ?_ _) | (with_reducible refine Below.drew ?_) | (with_reducible refine below_drewN ?_ _) | (apply bthen2; (with_reducible assumption)) | go_size)))

end Go.Proofs.Ytiafgfnefhcabaa
