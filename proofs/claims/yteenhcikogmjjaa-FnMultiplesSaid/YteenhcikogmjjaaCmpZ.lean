import Derived.Test.YteenhcikogmjjaaMul
import Derived.Test.YteenhcikogmjjaaCmp
import Derived.Test.YteenhcikogmjjaaBits
import Derived.Test.YteenhcikogmjjaaRatio
set_option linter.unusedSimpArgs false
set_option linter.unusedVariables false
namespace Go.Proofs.Yteenhcikogmjjaa
open Go.RowKit
/-! ### wholes are compared, signs and all -/

def cmpS (n1 n2 : Bool) (x y : Int) : Int := if n1 && !n2 then -1 else if n2 && !n1 then 1 else if n1 then cmpI y x else cmpI x y
theorem cmpS_z (z1 z2 : Int) : cmpS (decide (z1 < 0)) (decide (z2 < 0)) (z1.natAbs : Int) (z2.natAbs : Int) = cmpI z1 z2 := by
  unfold cmpS
  by_cases h1 : z1 < 0 <;> by_cases h2 : z2 < 0 <;> simp only [h1, h2, decide_true, decide_false, Bool.not_true, Bool.not_false, Bool.and_true, Bool.and_false, Bool.and_self, if_true, if_false, Bool.false_eq_true] <;> unfold cmpI <;> split <;> (try split) <;> (try split) <;> (try split) <;> omega
theorem compareWholes_dig (n1 n2 : Bool) (a a2 : Option Addr) (len cap len2 cap2 : Nat) (xs ys : List Int) (w : World) (hx : Ints w (.slice a len cap) xs) (hy : Ints w (.slice a2 len2 cap2) ys) (rx : Can xs) (ry : Can ys) (lx : xs.length ≤ 1000000) (ly : ys.length ≤ 1000000) :
    Calls Try.prog 67 #[.agg #[.bool n1, .slice a len cap], .agg #[.bool n2, .slice a2 len2 cap2]] w (Gives (.int .i64 (cmpS n1 n2 (val xs) (val ys))) w) := by
  have H1 := Lib.hid (fun n1 n2 W h h' => compareSizes_any n1 n2 a a2 len cap len2 cap2 xs ys W h h' rx ry lx ly)
  have H2 := Lib.hid (fun n1 n2 W h h' => compareSizes_any n1 n2 a2 a len2 cap2 len cap ys xs W h' h ry rx ly lx)
  have HX := Lib.hid hx; have HY := Lib.hid hy
  clear hx hy rx ry lx ly
  generalize val xs = X at *
  generalize val ys = Y at *
  cases n1 <;> cases n2
  · rw [show cmpS false false X Y = cmpI X Y from rfl]
    generalize cmpI X Y = C at *
    go_enter Try.func67, Try.ntmps67
    go_wp2_with fail
    refine (H1.out _ _ _ ?_ ?_).mono ?_
    · refine Ints.below HX.out ?_; repeat' (first | (with_reducible exact Below.refl _ _) | (with_reducible assumption) | (with_reducible refine Below.alloc ?_ ?_ _) | (with_reducible refine Below.setCell ?_ ?_ _) | (with_reducible refine Below.drew ?_) | (with_reducible refine below_drewN ?_ _) | (apply bthen2; (with_reducible assumption)) | go_size)
    · refine Ints.below HY.out ?_; repeat' (first | (with_reducible exact Below.refl _ _) | (with_reducible assumption) | (with_reducible refine Below.alloc ?_ ?_ _) | (with_reducible refine Below.setCell ?_ ?_ _) | (with_reducible refine Below.drew ?_) | (with_reducible refine below_drewN ?_ _) | (apply bthen2; (with_reducible assumption)) | go_size)
    rintro e wa ⟨rfl, hba⟩; have hza := hba.size; (try simp only [World.size_alloc, World.size_setCell, World.size_drew, World.heap_drewN] at hza); try (refine keepc hba (w.heap.size) ?_ ?_; (focus (first | omega | (simp <;> omega))); intro hca_0 hfa_0 hla_0); try (refine keepc hba (w.heap.size + 1) ?_ ?_; (focus (first | omega | (simp <;> omega))); intro hca_1 hfa_1 hla_1); try (refine keepc hba (w.heap.size + 1 + 1) ?_ ?_; (focus (first | omega | (simp <;> omega))); intro hca_2 hfa_2 hla_2)
    go_wp2_with fail
    go_ret
    exact gives rfl (by repeat' (first | (with_reducible exact Below.refl _ _) | (with_reducible assumption) | (with_reducible refine Below.alloc ?_ ?_ _) | (with_reducible refine Below.setCell ?_ ?_ _) | (with_reducible refine Below.drew ?_) | (with_reducible refine below_drewN ?_ _) | (apply bthen2; (with_reducible assumption)) | go_size))
  · rw [show cmpS false true X Y = 1 from rfl]
    go_enter Try.func67, Try.ntmps67
    go_wp2_with fail
    go_ret
    exact gives rfl (by repeat' (first | (with_reducible exact Below.refl _ _) | (with_reducible assumption) | (with_reducible refine Below.alloc ?_ ?_ _) | (with_reducible refine Below.setCell ?_ ?_ _) | (with_reducible refine Below.drew ?_) | (with_reducible refine below_drewN ?_ _) | (apply bthen2; (with_reducible assumption)) | go_size))
  · rw [show cmpS true false X Y = -1 from rfl]
    go_enter Try.func67, Try.ntmps67
    go_wp2_with fail
    go_ret
    exact gives rfl (by repeat' (first | (with_reducible exact Below.refl _ _) | (with_reducible assumption) | (with_reducible refine Below.alloc ?_ ?_ _) | (with_reducible refine Below.setCell ?_ ?_ _) | (with_reducible refine Below.drew ?_) | (with_reducible refine below_drewN ?_ _) | (apply bthen2; (with_reducible assumption)) | go_size))
  · rw [show cmpS true true X Y = cmpI Y X from rfl]
    generalize cmpI Y X = C at *
    go_enter Try.func67, Try.ntmps67
    go_wp2_with fail
    refine (H2.out _ _ _ ?_ ?_).mono ?_
    · refine Ints.below HX.out ?_; repeat' (first | (with_reducible exact Below.refl _ _) | (with_reducible assumption) | (with_reducible refine Below.alloc ?_ ?_ _) | (with_reducible refine Below.setCell ?_ ?_ _) | (with_reducible refine Below.drew ?_) | (with_reducible refine below_drewN ?_ _) | (apply bthen2; (with_reducible assumption)) | go_size)
    · refine Ints.below HY.out ?_; repeat' (first | (with_reducible exact Below.refl _ _) | (with_reducible assumption) | (with_reducible refine Below.alloc ?_ ?_ _) | (with_reducible refine Below.setCell ?_ ?_ _) | (with_reducible refine Below.drew ?_) | (with_reducible refine below_drewN ?_ _) | (apply bthen2; (with_reducible assumption)) | go_size)
    rintro e wa ⟨rfl, hba⟩; have hza := hba.size; (try simp only [World.size_alloc, World.size_setCell, World.size_drew, World.heap_drewN] at hza); try (refine keepc hba (w.heap.size) ?_ ?_; (focus (first | omega | (simp <;> omega))); intro hca_0 hfa_0 hla_0); try (refine keepc hba (w.heap.size + 1) ?_ ?_; (focus (first | omega | (simp <;> omega))); intro hca_1 hfa_1 hla_1); try (refine keepc hba (w.heap.size + 1 + 1) ?_ ?_; (focus (first | omega | (simp <;> omega))); intro hca_2 hfa_2 hla_2)
    go_wp2_with fail
    go_ret
    exact gives rfl (by repeat' (first | (with_reducible exact Below.refl _ _) | (with_reducible assumption) | (with_reducible refine Below.alloc ?_ ?_ _) | (with_reducible refine Below.setCell ?_ ?_ _) | (with_reducible refine Below.drew ?_) | (with_reducible refine below_drewN ?_ _) | (apply bthen2; (with_reducible assumption)) | go_size))
theorem compareWholes_any (z1 z2 : Int) (a a2 : Option Addr) (len cap len2 cap2 : Nat) (w : World) (hx : Ints w (.slice a len cap) (dg z1.natAbs)) (hy : Ints w (.slice a2 len2 cap2) (dg z2.natAbs)) (lx : (dg z1.natAbs).length ≤ 1000000) (ly : (dg z2.natAbs).length ≤ 1000000) :
    Calls Try.prog 67 #[.agg #[.bool (decide (z1 < 0)), .slice a len cap], .agg #[.bool (decide (z2 < 0)), .slice a2 len2 cap2]] w (Gives (.int .i64 (cmpI z1 z2)) w) := by
  have h := compareWholes_dig (decide (z1 < 0)) (decide (z2 < 0)) a a2 len cap len2 cap2 _ _ w hx hy (can_dg _) (can_dg _) lx ly
  rw [val_dg, val_dg, cmpS_z] at h
  exact h

end Go.Proofs.Yteenhcikogmjjaa
