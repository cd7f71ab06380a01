import Derived.Test.YteenhcikogmjjaaMem
import Derived.Test.YteenhcikogmjjaaDig
set_option linter.unusedSimpArgs false
set_option linter.unusedVariables false
namespace Go.Proofs.Yteenhcikogmjjaa
open Go.RowKit
/-! ### wholes: a sign and digits -/

/-- The call hands back a whole whose digits are of its own. -/
def GivesW (neg : Bool) (xs : List Int) (w : World) (e : Ending) (w' : World) : Prop := ∃ a len cap, e = .returned (.agg #[.bool neg, .slice a len cap]) ∧ Own w' w.heap.size (.slice a len cap) xs ∧ Below w.heap.size w w'
theorem Own.set {w : World} {B : Nat} {s : Value} {xs : List Int} {p : Addr} (h : Own w B s xs) (hp : p.block < B) (u : Value) : Own (w.setCell p u) B s xs := ownsRow_setCell_below h hp u
theorem Own.drew {w : World} {B : Nat} {s : Value} {xs : List Int} (h : Own w B s xs) : Own w.drew B s xs := h

/-- a valid whole -/
def whB (neg : Bool) (xs : List Int) : Bool := decide (xs.length ≤ 400) && !(xs.length == 0 && neg) && (xs.length == 0 || !(xs.getD (xs.length - 1) 0 == 0)) && xs.all (fun x => inB x 0 9999)
def okK (xs : List Int) (k : Nat) : Prop := ∀ j, j < k → inB (xs.getD j 0) 0 9999 = true
theorem okK_all {xs : List Int} (h : okK xs xs.length) : xs.all (fun x => inB x 0 9999) = true := by
  rw [List.all_eq_true]
  intro x hx
  obtain ⟨j, hj, rfl⟩ := List.mem_iff_getElem.1 hx
  have := h j hj
  simpa [List.getD, List.getElem?_eq_getElem hj] using this
theorem okK_no {xs : List Int} {k : Nat} (hk : k < xs.length) (h : inB (xs.getD k 0) 0 9999 = false) : xs.all (fun x => inB x 0 9999) = false := by
  rw [List.all_eq_false]
  refine ⟨xs[k], List.getElem_mem hk, ?_⟩
  simp only [List.getD, List.getElem?_eq_getElem hk, Option.getD_some] at h
  simp [h]

end Go.Proofs.Yteenhcikogmjjaa
