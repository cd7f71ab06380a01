import Derived.Test.YtfcfjlfobflmaaaDoorSum
import Derived.Test.YtfcfjlfobflmaaaDoorAdd
import Derived.Test.YtfcfjlfobflmaaaDoorBits
import Derived.Test.YtfcfjlfobflmaaaDoorCmp
import Derived.Test.YtfcfjlfobflmaaaDoorRatio
import Derived.Test.YtfcfjlfobflmaaaDoorMarkI
import Derived.IntWalk
set_option linter.unusedSimpArgs false
set_option linter.unusedVariables false
namespace Go.Proofs.YtfcfjlfobflmaaaDoor
open Go.RowKit
/-! ### slices of the call's own within bounds of blocks -/

/-- The slice s holds xs, in a block of lo .. hi - 1 (or in none). -/
def Seg (w : World) (lo hi : Nat) (s : Value) (xs : List Int) : Prop := Own w lo s xs ∧ ∀ b, s.ownBlock = some b → b < hi
theorem Seg.own {w : World} {lo hi : Nat} {s : Value} {xs : List Int} (h : Seg w lo hi s xs) : Own w lo s xs := h.1
theorem Seg.ints {w : World} {lo hi : Nat} {s : Value} {xs : List Int} (h : Seg w lo hi s xs) : Ints w s xs := h.1.ints
theorem Own.lt {w : World} {lo b : Nat} {s : Value} {xs : List Int} (h : Own w lo s xs) (hb : s.ownBlock = some b) : b < w.heap.size ∧ lo ≤ b := by
  rcases h.2 with ⟨hv, _⟩ | ⟨g, cap, cur, hv, hg, hh, _⟩
  · rw [hv] at hb; cases hb
  · rw [hv] at hb
    have e : g = b := by simpa [Value.ownBlock] using hb
    subst e
    refine ⟨?_, hg⟩
    rcases Nat.lt_or_ge g w.heap.size with q | q
    · exact q
    · rw [Array.getElem?_eq_none q] at hh; cases hh
theorem Seg.of {w : World} {lo : Nat} {s : Value} {xs : List Int} (h : Own w lo s xs) : Seg w lo w.heap.size s xs := ⟨h, fun b hb => (h.lt hb).1⟩
theorem Seg.drew {w : World} {lo hi : Nat} {s : Value} {xs : List Int} (h : Seg w lo hi s xs) : Seg w.drew lo hi s xs := h
theorem Seg.alloc {w : World} {lo hi : Nat} {s : Value} {xs : List Int} (h : Seg w lo hi s xs) (o : Obj) : Seg (w.alloc o) lo hi s xs := ⟨h.1.alloc o, h.2⟩
theorem Seg.mono {w : World} {lo hi lo' hi' : Nat} {s : Value} {xs : List Int} (h : Seg w lo hi s xs) (h1 : lo' ≤ lo) (h2 : hi ≤ hi') : Seg w lo' hi' s xs := ⟨h.1.mono h1, fun b hb => Nat.lt_of_lt_of_le (h.2 b hb) h2⟩
theorem only_setCell (w : World) (p : Addr) (u : Value) : Only (some p.block) w (w.setCell p u) :=
  ⟨rfl, rfl, rfl, by simp [World.setCell], fun k hk hne => Below.heap_setCell _ _ _ _ (fun e => hne (by rw [e]))⟩
theorem Seg.set {w : World} {lo hi : Nat} {s : Value} {xs : List Int} {p : Addr} (h : Seg w lo hi s xs) (hp : p.block < lo ∨ hi ≤ p.block) (u : Value) : Seg (w.setCell p u) lo hi s xs := by
  refine ⟨?_, h.2⟩
  rcases hp with hp | hp
  · exact h.1.set hp u
  · refine ownsRow_only h.1 (only_setCell w p u) ?_
    cases hb : s.ownBlock with
    | none => exact .inl rfl
    | some b => refine .inr (fun e => ?_)
                have := h.2 b hb
                have := Option.some.inj e
                omega
theorem Seg.below {w w' : World} {lo hi N : Nat} {s : Value} {xs : List Int} (h : Seg w lo hi s xs) (hb : Below N w w') (hN : hi ≤ N) : Seg w' lo hi s xs := by
  obtain ⟨⟨h1, h2⟩, h3⟩ := h
  refine ⟨⟨h1, ?_⟩, h3⟩
  rcases h2 with h2 | ⟨g, cap, cur, hv, hg, hh, r⟩
  · exact .inl h2
  · have q : g < hi := h3 g (by rw [hv]; rfl)
    exact .inr ⟨g, cap, cur, hv, hg, (hb.block g (by omega)).trans hh, r⟩

end Go.Proofs.YtfcfjlfobflmaaaDoor
