import Derived.Test.YtopdeoicglkbkaaNumC
set_option linter.unusedSimpArgs false
set_option linter.unusedVariables false
namespace Go.Proofs.Ytopdeoicglkbkaa
open Go.RowKit

/-! ### fractions -/
def isF (n d : Int) : Bool := inB d 1 1000000000 && inB n (-1000000000) 1000000000 && ((Int.gcd n d : Nat) : Int) == 1
def mkD (num den : Int) : Int := if den < 0 then -((Int.gcd num den : Nat) : Int) else ((Int.gcd num den : Nat) : Int)
def mkOk (num den : Int) : Bool := isF (num.tdiv (mkD num den)) (den.tdiv (mkD num den))
def mkF (num den : Int) : Value := if mkOk num den then .tuple #[.agg #[.int .i64 (num.tdiv (mkD num den)), .int .i64 (den.tdiv (mkD num den))], .bool true] else .tuple #[.agg #[.int .i64 0, .int .i64 0], .bool false]
theorem gcd_ne (num den : Int) (h : den ≠ 0) : 1 ≤ Int.gcd num den := by
  have : Int.gcd num den ≠ 0 := by rw [Ne, Int.gcd_eq_zero_iff]; omega
  omega
theorem gcd_le (num den : Int) (h : den ≠ 0) : Int.gcd num den ≤ den.natAbs := Nat.le_of_dvd (by omega) (Nat.gcd_dvd_right _ _)
theorem tdiv_bd (a b : Int) : (a.tdiv b).natAbs ≤ a.natAbs := by rw [Int.natAbs_tdiv]; exact Nat.div_le_self _ _

theorem isFraction_any (n d : Int) (w : World) : Calls Try.prog 48 #[.agg #[.int .i64 n, .int .i64 d]] w (Gives (.bool (isF n d)) w) := by
  cases g0 : inB d 1 1000000000
  · go_enter Try.func48, Try.ntmps48
    go_wp2_with (first | (go_at_call 75; refine (inside_any _ _ _ _).mono ?_; rintro e w1 ⟨rfl, rfl⟩))
    go_ret; exact gives (vbool (by simp [isF, g0])) (by repeat' (first | (with_reducible exact Below.refl _ _) | (with_reducible assumption) | (with_reducible refine Below.alloc ?_ ?_ _) | (with_reducible refine Below.setCell ?_ ?_ _) | (with_reducible refine Below.drew ?_) | (with_reducible refine below_drewN ?_ _) | (apply bthen2; (with_reducible assumption)) | go_size))
  cases g1 : inB n (-1000000000) 1000000000
  · go_enter Try.func48, Try.ntmps48
    go_wp2_with (first | (go_at_call 75; refine (inside_any _ _ _ _).mono ?_; rintro e w1 ⟨rfl, rfl⟩))
    go_ret; exact gives (vbool (by simp [isF, g0, g1])) (by repeat' (first | (with_reducible exact Below.refl _ _) | (with_reducible assumption) | (with_reducible refine Below.alloc ?_ ?_ _) | (with_reducible refine Below.setCell ?_ ?_ _) | (with_reducible refine Below.drew ?_) | (with_reducible refine below_drewN ?_ _) | (apply bthen2; (with_reducible assumption)) | go_size))
  have a1 : -9223372036854775807 ≤ n := by have := (inB_iff.1 g1).1; omega
  have a2 : n ≤ 9223372036854775807 := by have := (inB_iff.1 g1).2; omega
  have a3 : -9223372036854775807 ≤ d := by have := (inB_iff.1 g0).1; omega
  have a4 : d ≤ 9223372036854775807 := by have := (inB_iff.1 g0).2; omega
  go_enter Try.func48, Try.ntmps48
  go_wp2_with (first | (go_at_call 75; refine (inside_any _ _ _ _).mono ?_; rintro e w1 ⟨rfl, rfl⟩) | (go_at_call 87; refine (gcd_any n d a1 a2 a3 a4 _).mono ?_; rintro e w1 ⟨rfl, nq, rfl⟩))
  go_ret; exact gives (vbool (by simp [isF, g0, g1])) (by repeat' (first | (with_reducible exact Below.refl _ _) | (with_reducible assumption) | (with_reducible refine Below.alloc ?_ ?_ _) | (with_reducible refine Below.setCell ?_ ?_ _) | (with_reducible refine Below.drew ?_) | (with_reducible refine below_drewN ?_ _) | (apply bthen2; (with_reducible assumption)) | go_size))

set_option maxHeartbeats 4000000 in
theorem frGood_any (n d : Int) (w : World) : Calls Try.prog 46 #[.agg #[.int .i64 n, .int .i64 d]] w (Gives (.bool (isF n d)) w) := by
  cases g0 : inB d 1 1000000000
  · go_enter Try.func46, Try.ntmps46
    go_wp2
    go_quiet ((go_at_call 83; exact qs (l1In_any _ _ _ _)))
    go_wp2
    go_ret; exact gives (vbool (by simp [isF, g0])) (by repeat' (first | (with_reducible exact Below.refl _ _) | (with_reducible assumption) | (with_reducible refine Below.alloc ?_ ?_ _) | (with_reducible refine Below.setCell ?_ ?_ _) | (with_reducible refine Below.drew ?_) | (with_reducible refine below_drewN ?_ _) | (apply bthen2; (with_reducible assumption)) | go_size))
  cases g1 : inB n (-1000000000) 1000000000
  · go_enter Try.func46, Try.ntmps46
    go_wp2
    go_quiet ((go_at_call 83; exact qs (l1In_any _ _ _ _)))
    go_wp2
    go_ret; exact gives (vbool (by simp [isF, g0, g1])) (by repeat' (first | (with_reducible exact Below.refl _ _) | (with_reducible assumption) | (with_reducible refine Below.alloc ?_ ?_ _) | (with_reducible refine Below.setCell ?_ ?_ _) | (with_reducible refine Below.drew ?_) | (with_reducible refine below_drewN ?_ _) | (apply bthen2; (with_reducible assumption)) | go_size))
  have a1 : -1000000000 ≤ n := (inB_iff.1 g1).1
  have a2 : n ≤ 1000000000 := (inB_iff.1 g1).2
  have a3 : 0 ≤ d := by have := (inB_iff.1 g0).1; omega
  have a5 : 0 ≤ max n (wrap64 (-n)) := by rw [win (by omega)]; omega
  have hg : ∀ w, Calls Try.prog 84 #[.int .i64 (max n (wrap64 (-n))), .int .i64 d] w (Same (.int .i64 (Int.gcd n d)) w) := fun w => by
    have e : Int.gcd (max n (wrap64 (-n))) d = Int.gcd n d := by
      have : (max n (wrap64 (-n))).natAbs = n.natAbs := by rw [win (by omega)]; omega
      show Nat.gcd _ _ = Nat.gcd _ _; rw [this]
    rw [← e]; exact bgCommon_any _ _ a5 a3 w
  have ha : ∀ w, Calls Try.prog 85 #[.int .i64 n] w (Same (.int .i64 (max n (wrap64 (-n)))) w) := fun w => l1Abs_any n w
  generalize max n (wrap64 (-n)) = A at hg ha
  have HG := Lib.hid hg; have HA := Lib.hid ha; clear hg a5 ha
  go_enter Try.func46, Try.ntmps46
  go_wp2
  go_quiet ((first | (go_at_call 83; exact qs (l1In_any _ _ _ _)) | (go_at_call 85; exact qs (HA.out _)) | (go_at_call 84; exact qs (HG.out _))))
  go_wp2
  go_ret; exact gives (vbool (by simp [isF, g0, g1])) (by repeat' (first | (with_reducible exact Below.refl _ _) | (with_reducible assumption) | (with_reducible refine Below.alloc ?_ ?_ _) | (with_reducible refine Below.setCell ?_ ?_ _) | (with_reducible refine Below.drew ?_) | (with_reducible refine below_drewN ?_ _) | (apply bthen2; (with_reducible assumption)) | go_size))

end Go.Proofs.Ytopdeoicglkbkaa
