import Derived.Test.YtfcfjlfobflmaaaDoorArith
import Derived.Test.YtfcfjlfobflmaaaDoorMk2
set_option linter.unusedSimpArgs false
set_option linter.unusedVariables false
namespace Go.Proofs.YtfcfjlfobflmaaaDoor
open Go.RowKit
/-! ### sums of wholes -/

theorem Own.put {w : World} {B g n cap : Nat} {xs : List Int} (h : Own w B (.slice (some ⟨g, 0, none⟩) n cap) xs) (k : Nat) (v : Int) : Own (w.setCell ⟨g, k, none⟩ (.int .i64 v)) B (.slice (some ⟨g, 0, none⟩) n cap) (xs.set k v) := by
  obtain ⟨a, c, he⟩ := h.slice
  have hn : n = xs.length := by simp only [Value.slice.injEq] at he; exact he.2.1
  subst hn
  unfold Own at *
  have := (World.ownsRow.stored h k (.int .i64 v)).1
  rw [List.length_set, List.map_set]
  exact this
theorem Own.at {w : World} {B g n cap : Nat} {xs : List Int} (h : Own w B (.slice (some ⟨g, 0, none⟩) n cap) xs) (k : Nat) (hk : k < xs.length) : w.cell? ⟨g, k, none⟩ = some (.int .i64 (xs.getD k 0)) ∧ w.frozen? ⟨g, k, none⟩ = false ∧ g < w.heap.size ∧ B ≤ g := by
  have hs := h.slice
  obtain ⟨a, c, he⟩ := hs
  have hn : n = xs.length := by simp only [Value.slice.injEq] at he; exact he.2.1
  subst hn
  have h' := h
  unfold Own at h'
  have c1 := World.ownsRow.cellAt h' k (by omega)
  have c2 := World.ownsRow.frozenAt h' k
  refine ⟨?_, c2, World.ownsRow.lt h', ?_⟩
  · rw [c1]; simp [List.getD, List.getElem?_eq_getElem hk]
  · rcases h.2 with ⟨hv, _⟩ | ⟨g', cap', cur, hv, hg, _⟩
    · cases hv
    · simp only [Value.slice.injEq, Option.some.injEq, Addr.mk.injEq, and_true, true_and] at hv
      omega
theorem Own.made {w : World} {B n : Nat} (h : w.ownsRow B 3 1 (.slice (some ⟨B, 0, none⟩) n n) n (madeCells (Value.int IntKind.i64 0).cells (n * 1)).toList) : Own w B (.slice (some ⟨B, 0, none⟩) n n) (List.replicate n 0) := by
  unfold Own
  rw [List.length_replicate, List.map_replicate]
  have : (madeCells (Value.int IntKind.i64 0).cells (n * 1)).toList = List.replicate n (.int .i64 0) := by rw [Nat.mul_one]; exact toList_madeCells_one _ _
  rw [← this]; exact h

end Go.Proofs.YtfcfjlfobflmaaaDoor
