import Derived.Test.YtfcfjlfobflmaaaDoorSeg
import Derived.Test.YtfcfjlfobflmaaaDoorMarkI
import Derived.Test.YtfcfjlfobflmaaaDoorMk
import Derived.Test.YtfcfjlfobflmaaaDoorRatio
import Derived.Test.YtfcfjlfobflmaaaDoorMk4
set_option linter.unusedSimpArgs false
set_option linter.unusedVariables false
namespace Go.Proofs.YtfcfjlfobflmaaaDoor
open Go.RowKit
/-! ### marks on wholes and ratios, and what they leave alone -/

/-- Nothing outside the blocks lo .. hi - 1 may have changed. -/
structure Chg (lo hi : Nat) (w w' : World) : Prop where
  os : w'.os = w.os
  tape : w'.tape = w.tape
  output : w'.output = w.output
  size : w.heap.size ≤ w'.heap.size
  block : ∀ k, k < w.heap.size → (k < lo ∨ hi ≤ k) → w'.heap[k]? = w.heap[k]?
theorem Chg.of {lo hi : Nat} {w w' : World} {g : Option Nat} (h : Only g w w') (hg : ∀ b, g = some b → lo ≤ b ∧ b < hi) : Chg lo hi w w' :=
  ⟨h.os, h.tape, h.output, h.size, fun k hk hq => h.block k hk (fun e => by have := hg k e.symm; omega)⟩
theorem Chg.trans {lo hi : Nat} {a b c : World} (h : Chg lo hi a b) (k : Chg lo hi b c) : Chg lo hi a c :=
  ⟨k.os.trans h.os, k.tape.trans h.tape, k.output.trans h.output, Nat.le_trans h.size k.size, fun i hi hg => (k.block i (Nat.lt_of_lt_of_le hi h.size) hg).trans (h.block i hi hg)⟩
theorem Chg.mono {lo hi lo' hi' : Nat} {a b : World} (h : Chg lo hi a b) (h1 : lo' ≤ lo) (h2 : hi ≤ hi') : Chg lo' hi' a b :=
  ⟨h.os, h.tape, h.output, h.size, fun k hk hq => h.block k hk (by omega)⟩
theorem Chg.refl (lo hi : Nat) (w : World) : Chg lo hi w w := ⟨rfl, rfl, rfl, Nat.le_refl _, fun _ _ _ => rfl⟩
theorem Chg.alloc {lo hi : Nat} {a b : World} (h : Chg lo hi a b) (o : Obj) : Chg lo hi a (b.alloc o) :=
  ⟨h.os, h.tape, h.output, Nat.le_trans h.size (by simp), fun k hk hg => by
    rw [← h.block k hk hg]
    exact (Below.alloc (Below.refl b.heap.size b) (Nat.le_refl _) o).block k (Nat.lt_of_lt_of_le hk h.size)⟩
theorem Chg.below {lo hi N : Nat} {a b : World} (h : Chg lo hi a b) (h1 : N ≤ lo) (h2 : N ≤ a.heap.size) : Below N a b :=
  ⟨h.os, h.tape, h.output, h.size, fun k hk => h.block k (by omega) (by omega)⟩
theorem Chg.cell {lo hi : Nat} {a b : World} (h : Chg lo hi a b) {k o : Nat} (h1 : k < a.heap.size) (h2 : k < lo ∨ hi ≤ k) {v : Option Value} (hv : a.cell? ⟨k, o, none⟩ = v) : b.cell? ⟨k, o, none⟩ = v :=
  (World.cell?_of_block (w := a) (w' := b) (a := ⟨k, o, none⟩) (h.block k h1 h2)).trans hv
theorem Seg.chg {w w' : World} {lo hi lo' hi' : Nat} {s : Value} {xs : List Int} (h : Seg w lo hi s xs) (hc : Chg lo' hi' w w') (hd : hi ≤ lo' ∨ hi' ≤ lo) : Seg w' lo hi s xs := by
  obtain ⟨⟨h1, h2⟩, h3⟩ := h
  refine ⟨⟨h1, ?_⟩, h3⟩
  rcases h2 with h2 | ⟨g, cap, cur, hv, hg, hh, r⟩
  · exact .inl h2
  · have q : g < hi := h3 g (by rw [hv]; rfl)
    have q2 : g < w.heap.size := by
      rcases Nat.lt_or_ge g w.heap.size with q | q
      · exact q
      · rw [Array.getElem?_eq_none q] at hh; cases hh
    exact .inr ⟨g, cap, cur, hv, hg, (hc.block g q2 (by omega)).trans hh, r⟩

theorem Two.segs {w : World} {B : Nat} {a1 : Option Addr} {l1 c1 : Nat} {xs : List Int} {s2 : Value} {ys : List Int} (h : Two w B a1 l1 c1 xs s2 ys) (hB : B ≤ w.heap.size) : ∃ C, Seg w B C (.slice a1 l1 c1) xs ∧ Seg w C w.heap.size s2 ys ∧ B ≤ C ∧ C ≤ w.heap.size := by
  obtain ⟨C, h1, h2, h3, h4⟩ := h
  refine ⟨min C w.heap.size, ⟨h1, fun b hb => ?_⟩, Seg.of (h2.mono (by omega)), by omega, by omega⟩
  have q := (h1.lt hb).1
  cases a1 with
  | none => cases hb
  | some ad =>
    have q2 := h4 ad rfl
    have e : ad.block = b := by simpa [Value.ownBlock] using hb
    omega

end Go.Proofs.YtfcfjlfobflmaaaDoor
