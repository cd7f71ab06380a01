import Derived.Test.YtfcfjlfobflmaaaDoorMk3
import Derived.Test.YtfcfjlfobflmaaaDoorFracA
set_option linter.unusedSimpArgs false
set_option linter.unusedVariables false
namespace Go.Proofs.YtfcfjlfobflmaaaDoor
open Go.RowKit
/-! ### ratios that a call makes -/

/-- The two slices of the call's own, in blocks of their own. -/
def Two (w : World) (B : Nat) (a1 : Option Addr) (l1 c1 : Nat) (xs : List Int) (s2 : Value) (ys : List Int) : Prop := ∃ C, Own w B (.slice a1 l1 c1) xs ∧ Own w C s2 ys ∧ B ≤ C ∧ (∀ ad, a1 = some ad → ad.block < C)
def GivesRt (n1 : Bool) (xs : List Int) (n2 : Bool) (ys : List Int) (w : World) (e : Ending) (w' : World) : Prop := ∃ a1 l1 c1 a2 l2 c2, e = .returned (.agg #[.bool n1, .slice a1 l1 c1, .bool n2, .slice a2 l2 c2]) ∧ Two w' w.heap.size a1 l1 c1 xs (.slice a2 l2 c2) ys ∧ Below w.heap.size w w'
def GivesRB (b n1 : Bool) (xs : List Int) (n2 : Bool) (ys : List Int) (w : World) (e : Ending) (w' : World) : Prop := ∃ a1 l1 c1 a2 l2 c2, e = .returned (.tuple #[.agg #[.bool n1, .slice a1 l1 c1, .bool n2, .slice a2 l2 c2], .bool b]) ∧ Two w' w.heap.size a1 l1 c1 xs (.slice a2 l2 c2) ys ∧ Below w.heap.size w w'
theorem Two.set {w : World} {B : Nat} {a1 : Option Addr} {l1 c1 : Nat} {xs : List Int} {s2 : Value} {ys : List Int} {p : Addr} (h : Two w B a1 l1 c1 xs s2 ys) (hp : p.block < B) (u : Value) : Two (w.setCell p u) B a1 l1 c1 xs s2 ys := by
  obtain ⟨C, h1, h2, h3, h4⟩ := h
  exact ⟨C, h1.set hp u, h2.set (Nat.lt_of_lt_of_le hp h3) u, h3, h4⟩
theorem Two.mono {w : World} {B B' : Nat} {a1 : Option Addr} {l1 c1 : Nat} {xs : List Int} {s2 : Value} {ys : List Int} (h : Two w B a1 l1 c1 xs s2 ys) (hB : B' ≤ B) : Two w B' a1 l1 c1 xs s2 ys := by
  obtain ⟨C, h1, h2, h3, h4⟩ := h
  exact ⟨C, h1.mono hB, h2, Nat.le_trans hB h3, h4⟩
theorem Two.below {w w' : World} {B : Nat} {a1 : Option Addr} {l1 c1 : Nat} {xs : List Int} {s2 : Value} {ys : List Int} (h : Two w B a1 l1 c1 xs s2 ys) (hb : Below w.heap.size w w') : Two w' B a1 l1 c1 xs s2 ys := by
  obtain ⟨C, h1, h2, h3, h4⟩ := h
  exact ⟨C, h1.below hb, h2.below hb, h3, h4⟩
theorem Two.of {w w' : World} {B : Nat} {a1 : Option Addr} {l1 c1 : Nat} {xs : List Int} {s2 : Value} {ys : List Int} (h1 : Own w B (.slice a1 l1 c1) xs) (hB : B ≤ w.heap.size) (h2 : Own w' w.heap.size s2 ys) (hb : Below w.heap.size w w') : Two w' B a1 l1 c1 xs s2 ys := by
  refine ⟨w.heap.size, h1.below hb, h2, hB, ?_⟩
  rintro ad rfl
  exact (_root_.Go.World.ownsRow.lt h1 ad.block rfl).2
theorem Two.nil (w : World) (B : Nat) : Two w B none 0 0 [] (.slice none 0 0) [] := ⟨B, Own.nil _ _, Own.nil _ _, Nat.le_refl _, by simp⟩

end Go.Proofs.YtfcfjlfobflmaaaDoor
