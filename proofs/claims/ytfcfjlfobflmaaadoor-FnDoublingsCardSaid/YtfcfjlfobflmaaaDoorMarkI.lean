import Derived.Test.YtfcfjlfobflmaaaDoorOwnX
import Derived.Laws.AppendOwnNone
set_option linter.unusedSimpArgs false
set_option linter.unusedVariables false
namespace Go.Proofs.YtfcfjlfobflmaaaDoor
open Go.RowKit
/-! ### marks in slices of ints -/

theorem own_only {w w' : World} {B : Nat} {v : Value} {xs : List Int} {g : Option Nat} (h : Own w B v xs) (ho : Only g w w') (hne : v.ownBlock = none ∨ v.ownBlock ≠ g) : Own w' B v xs := ownsRow_only h ho hne
def mkI (k0 : Int) (n : Nat) : List Int := (List.range n).map fun (i : Nat) => k0 + (i : Int)
theorem mkI_len (k0 : Int) (n : Nat) : (mkI k0 n).length = n := by simp [mkI]
theorem mkI_at (k0 : Int) (n i : Nat) (h : i < n) : (mkI k0 n).getD i 0 = k0 + (i : Int) := by simp [mkI, List.getD, h]
def mixI (k0 : Int) (xs : List Int) (i : Nat) : List Int := mkI k0 i ++ xs.drop i
theorem mixI_len (k0 : Int) (xs : List Int) (i : Nat) (h : i ≤ xs.length) : (mixI k0 xs i).length = xs.length := by simp [mixI, mkI_len]; omega
theorem mixI_0 (k0 : Int) (xs : List Int) : mixI k0 xs 0 = xs := by simp [mixI, mkI]
theorem mixI_end (k0 : Int) (xs : List Int) : mixI k0 xs xs.length = mkI k0 xs.length := by simp [mixI]
theorem mixI_set (k0 : Int) (xs : List Int) (i : Nat) (h : i < xs.length) : ((mixI k0 xs i).map (Value.int .i64)).set i (.int .i64 (k0 + (i : Int))) = (mixI k0 xs (i + 1)).map (Value.int .i64) := by
  rw [← List.map_set]
  congr 1
  unfold mixI
  rw [List.set_append_right _ _ (by rw [mkI_len]; exact Nat.le_refl _), mkI_len, Nat.sub_self, List.drop_eq_getElem_cons h, List.set_cons_zero]
  unfold mkI
  rw [List.range_succ, List.map_append]
  simp
theorem mark_belowI {W we wd wf : World} {v : Value} {xs : List Int} (own : Own wd W.heap.size v xs) (hbd : Below W.heap.size W wd) (hbe : Below wd.heap.size wd we) (hon : Only v.ownBlock we wf) : Below W.heap.size W wf :=
  (hbd.trans (hbe.mono hbd.size)).trans (hon.below (Nat.le_trans hbd.size hbe.size) fun k hk => (_root_.Go.World.ownsRow.lt own k hk).1)

end Go.Proofs.YtfcfjlfobflmaaaDoor
