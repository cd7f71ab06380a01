import Derived.Test.YtldmledjdcphmaaFracA
set_option linter.unusedSimpArgs false
set_option linter.unusedVariables false
namespace Go.Proofs.Ytldmledjdcphmaa
open Go.RowKit

theorem toTwoCurve_any (a b : Int) (w : World) : Calls Try.prog 18 #[.agg #[.int .i64 a, .int .i64 b]] w (Gives (.agg #[.int .i64 a, .int .i64 b]) w) := by
  go_enter Try.func18, Try.ntmps18
  go_wp2
  go_returns
  exact gives rfl (by repeat' (first | (with_reducible exact Below.refl _ _) | (with_reducible assumption) | (with_reducible refine Below.alloc ?_ ?_ _) | (with_reducible refine Below.setCell ?_ ?_ _) | (with_reducible refine Below.drew ?_) | (with_reducible refine below_drewN ?_ _) | (apply bthen2; (with_reducible assumption)) | go_size))

/-! ### two-curves -/
def isT (a b : Int) : Bool := inB a (-300) 300 && inB b (-300) 300 && b != 0 && wrap64 (a*a) != wrap64 (4*b)

theorem isTwoCurve_any (a b : Int) (w : World) : Calls Try.prog 40 #[.agg #[.int .i64 a, .int .i64 b]] w (Gives (.bool (isT a b)) w) := by
  cases g0 : inB a (-300) 300
  · go_enter Try.func40, Try.ntmps40
    go_wp2_with (go_at_call 48; refine (inside_any _ _ _ _).mono ?_; rintro e w1 ⟨rfl, rfl⟩)
    go_ret; exact gives (vbool (by simp [isT, g0])) (by repeat' (first | (with_reducible exact Below.refl _ _) | (with_reducible assumption) | (with_reducible refine Below.alloc ?_ ?_ _) | (with_reducible refine Below.setCell ?_ ?_ _) | (with_reducible refine Below.drew ?_) | (with_reducible refine below_drewN ?_ _) | (apply bthen2; (with_reducible assumption)) | go_size))
  cases g1 : inB b (-300) 300
  · go_enter Try.func40, Try.ntmps40
    go_wp2_with (go_at_call 48; refine (inside_any _ _ _ _).mono ?_; rintro e w1 ⟨rfl, rfl⟩)
    go_ret; exact gives (vbool (by simp [isT, g0, g1])) (by repeat' (first | (with_reducible exact Below.refl _ _) | (with_reducible assumption) | (with_reducible refine Below.alloc ?_ ?_ _) | (with_reducible refine Below.setCell ?_ ?_ _) | (with_reducible refine Below.drew ?_) | (with_reducible refine below_drewN ?_ _) | (apply bthen2; (with_reducible assumption)) | go_size))
  by_cases g2 : b = 0
  · have e : isT a b = false := by simp [isT, g2]
    have E := Lib.hid e; clear e
    subst g2
    go_enter Try.func40, Try.ntmps40
    go_wp2_with (go_at_call 48; refine (inside_any _ _ _ _).mono ?_; rintro e w1 ⟨rfl, rfl⟩)
    go_ret; exact gives (vbool (by rw [E.out])) (by repeat' (first | (with_reducible exact Below.refl _ _) | (with_reducible assumption) | (with_reducible refine Below.alloc ?_ ?_ _) | (with_reducible refine Below.setCell ?_ ?_ _) | (with_reducible refine Below.drew ?_) | (with_reducible refine below_drewN ?_ _) | (apply bthen2; (with_reducible assumption)) | go_size))
  · have g2' : (b != 0) = true := by simpa using g2
    have e : isT a b = (wrap64 (a*a) != wrap64 (4*b)) := by simp [isT, g0, g1, g2]
    have E := Lib.hid e; clear e
    go_enter Try.func40, Try.ntmps40
    go_wp2_with (go_at_call 48; refine (inside_any _ _ _ _).mono ?_; rintro e w1 ⟨rfl, rfl⟩)
    go_ret; exact gives (vbool (by rw [E.out])) (by repeat' (first | (with_reducible exact Below.refl _ _) | (with_reducible assumption) | (with_reducible refine Below.alloc ?_ ?_ _) | (with_reducible refine Below.setCell ?_ ?_ _) | (with_reducible refine Below.drew ?_) | (with_reducible refine below_drewN ?_ _) | (apply bthen2; (with_reducible assumption)) | go_size))

theorem tcGood_any (a b : Int) (w : World) : Calls Try.prog 38 #[.agg #[.int .i64 a, .int .i64 b]] w (Gives (.bool (isT a b)) w) := by
  cases g0 : inB a (-300) 300
  · go_enter Try.func38, Try.ntmps38
    go_wp2_with (go_at_call 61; refine (l1In_any _ _ _ _).mono ?_; rintro e w1 ⟨rfl, rfl⟩)
    go_ret; exact gives (vbool (by simp [isT, g0])) (by repeat' (first | (with_reducible exact Below.refl _ _) | (with_reducible assumption) | (with_reducible refine Below.alloc ?_ ?_ _) | (with_reducible refine Below.setCell ?_ ?_ _) | (with_reducible refine Below.drew ?_) | (with_reducible refine below_drewN ?_ _) | (apply bthen2; (with_reducible assumption)) | go_size))
  cases g1 : inB b (-300) 300
  · go_enter Try.func38, Try.ntmps38
    go_wp2_with (go_at_call 61; refine (l1In_any _ _ _ _).mono ?_; rintro e w1 ⟨rfl, rfl⟩)
    go_ret; exact gives (vbool (by simp [isT, g0, g1])) (by repeat' (first | (with_reducible exact Below.refl _ _) | (with_reducible assumption) | (with_reducible refine Below.alloc ?_ ?_ _) | (with_reducible refine Below.setCell ?_ ?_ _) | (with_reducible refine Below.drew ?_) | (with_reducible refine below_drewN ?_ _) | (apply bthen2; (with_reducible assumption)) | go_size))
  by_cases g2 : b = 0
  · have e : isT a b = false := by simp [isT, g2]
    have E := Lib.hid e; clear e
    subst g2
    go_enter Try.func38, Try.ntmps38
    go_wp2_with (go_at_call 61; refine (l1In_any _ _ _ _).mono ?_; rintro e w1 ⟨rfl, rfl⟩)
    go_ret; exact gives (vbool (by rw [E.out])) (by repeat' (first | (with_reducible exact Below.refl _ _) | (with_reducible assumption) | (with_reducible refine Below.alloc ?_ ?_ _) | (with_reducible refine Below.setCell ?_ ?_ _) | (with_reducible refine Below.drew ?_) | (with_reducible refine below_drewN ?_ _) | (apply bthen2; (with_reducible assumption)) | go_size))
  · have g2' : (b != 0) = true := by simpa using g2
    have e : isT a b = (wrap64 (a*a) != wrap64 (4*b)) := by simp [isT, g0, g1, g2]
    have E := Lib.hid e; clear e
    go_enter Try.func38, Try.ntmps38
    go_wp2_with (go_at_call 61; refine (l1In_any _ _ _ _).mono ?_; rintro e w1 ⟨rfl, rfl⟩)
    go_ret; exact gives (vbool (by rw [E.out])) (by repeat' (first | (with_reducible exact Below.refl _ _) | (with_reducible assumption) | (with_reducible refine Below.alloc ?_ ?_ _) | (with_reducible refine Below.setCell ?_ ?_ _) | (with_reducible refine Below.drew ?_) | (with_reducible refine below_drewN ?_ _) | (apply bthen2; (with_reducible assumption)) | go_size))

end Go.Proofs.Ytldmledjdcphmaa
