import Derived.Test.YtfcfjlfobflmaaaDoorChg
set_option linter.unusedSimpArgs false
set_option linter.unusedVariables false
namespace Go.Proofs.YtfcfjlfobflmaaaDoor
open Go.RowKit
/-! ### boxes of the call's own, and what marks leave alone -/

theorem bthen3 {N : Nat} {w w0 w' : World} (k : Below w0.heap.size w0 w') (h : Below N w w0) (hN : N ≤ w0.heap.size) : Below N w w' := h.trans (k.mono hN)
/-- The block b holds the cells vs, and may be written. -/
def Box (w : World) (b : Nat) (vs : List Value) : Prop := b < w.heap.size ∧ (∀ i v, vs[i]? = some v → w.cell? ⟨b, i, none⟩ = some v) ∧ ∀ o, w.frozen? ⟨b, o, none⟩ = false
theorem Box.below {w w' : World} {b : Nat} {vs : List Value} (h : Box w b vs) (hb : Below w.heap.size w w') : Box w' b vs :=
  ⟨Nat.lt_of_lt_of_le h.1 hb.size, fun i v hi => (hb.cell (p := ⟨b, i, none⟩) h.1).trans (h.2.1 i v hi), fun o => (hb.frozen (p := ⟨b, o, none⟩) h.1).trans (h.2.2 o)⟩
theorem Box.drew {w : World} {b : Nat} {vs : List Value} (h : Box w b vs) : Box w.drew b vs := h
theorem Box.alloc {w : World} {b : Nat} {vs : List Value} (h : Box w b vs) (o : Obj) : Box (w.alloc o) b vs := h.below (Below.alloc (Below.refl _ _) (Nat.le_refl _) o)
theorem box_two {w : World} {b : Nat} {u v : Value} (h : b < w.heap.size) (h0 : w.cell? ⟨b, 0, none⟩ = some u) (h1 : w.cell? ⟨b, 1, none⟩ = some v) (hf : ∀ o, w.frozen? ⟨b, o, none⟩ = false) : Box w b [u, v] :=
  ⟨h, fun i x hi => by
    match i, hi with
    | 0, hi => obtain rfl : u = x := by simpa using hi
               exact h0
    | 1, hi => obtain rfl : v = x := by simpa using hi
               exact h1, hf⟩
theorem box_three {w : World} {b : Nat} {u v x : Value} (h : b < w.heap.size) (h0 : w.cell? ⟨b, 0, none⟩ = some u) (h1 : w.cell? ⟨b, 1, none⟩ = some v) (h2 : w.cell? ⟨b, 2, none⟩ = some x) (hf : ∀ o, w.frozen? ⟨b, o, none⟩ = false) : Box w b [u, v, x] :=
  ⟨h, fun i y hi => by
    match i, hi with
    | 0, hi => obtain rfl : u = y := by simpa using hi
               exact h0
    | 1, hi => obtain rfl : v = y := by simpa using hi
               exact h1
    | 2, hi => obtain rfl : x = y := by simpa using hi
               exact h2, hf⟩
theorem box_four {w : World} {b : Nat} {u v x z : Value} (h : b < w.heap.size) (h0 : w.cell? ⟨b, 0, none⟩ = some u) (h1 : w.cell? ⟨b, 1, none⟩ = some v) (h2 : w.cell? ⟨b, 2, none⟩ = some x) (h3 : w.cell? ⟨b, 3, none⟩ = some z) (hf : ∀ o, w.frozen? ⟨b, o, none⟩ = false) : Box w b [u, v, x, z] :=
  ⟨h, fun i y hi => by
    match i, hi with
    | 0, hi => obtain rfl : u = y := by simpa using hi
               exact h0
    | 1, hi => obtain rfl : v = y := by simpa using hi
               exact h1
    | 2, hi => obtain rfl : x = y := by simpa using hi
               exact h2
    | 3, hi => obtain rfl : z = y := by simpa using hi
               exact h3, hf⟩
theorem Box.set_ne {w : World} {b : Nat} {vs : List Value} {p : Addr} (h : Box w b vs) (hp : p.block ≠ b) (u : Value) : Box (w.setCell p u) b vs := by
  have ho := only_setCell w p u
  have hb := ho.block b h.1 (fun e => hp (Option.some.inj e).symm)
  exact ⟨Nat.lt_of_lt_of_le h.1 ho.size, fun i v hi => (World.cell?_of_block (w := w) (w' := w.setCell p u) (a := ⟨b, i, none⟩) hb).trans (h.2.1 i v hi), fun o => (World.frozen?_of_block (w := w) (w' := w.setCell p u) (a := ⟨b, o, none⟩) hb).trans (h.2.2 o)⟩
theorem Box.set {w : World} {b : Nat} {vs : List Value} (h : Box w b vs) (k : Nat) (hk : k < vs.length) (u : Value) : Box (w.setCell ⟨b, k, none⟩ u) b (vs.set k u) := by
  obtain ⟨h1, h2, h3⟩ := h
  have hc := h2 k vs[k] (List.getElem?_eq_getElem hk)
  refine ⟨Nat.lt_of_lt_of_le h1 (only_setCell w ⟨b, k, none⟩ u).size, fun i v hi => ?_, fun o => ?_⟩
  · by_cases e : i = k
    · subst e
      rw [List.getElem?_set_self hk] at hi
      cases hi
      simp [h1, hc, go_sem]
    · rw [List.getElem?_set_ne (by omega)] at hi
      have := h2 i v hi
      simp [this, e, Ne.symm e, go_sem]
  · have := h3 o
    simp [this, go_sem]
/-- Nothing outside the blocks of S may have changed. -/
structure ChgS (S : Nat → Prop) (w w' : World) : Prop where
  os : w'.os = w.os
  tape : w'.tape = w.tape
  output : w'.output = w.output
  size : w.heap.size ≤ w'.heap.size
  block : ∀ k, k < w.heap.size → ¬ S k → w'.heap[k]? = w.heap[k]?
theorem ChgS.of {w w' : World} {g : Option Nat} (h : Only g w w') : ChgS (fun k => g = some k) w w' := ⟨h.os, h.tape, h.output, h.size, fun k hk hq => h.block k hk (fun e => hq e.symm)⟩
theorem ChgS.trans {S : Nat → Prop} {a b c : World} (h : ChgS S a b) (k : ChgS S b c) : ChgS S a c :=
  ⟨k.os.trans h.os, k.tape.trans h.tape, k.output.trans h.output, Nat.le_trans h.size k.size, fun i hi hg => (k.block i (Nat.lt_of_lt_of_le hi h.size) hg).trans (h.block i hi hg)⟩
theorem ChgS.mono {S T : Nat → Prop} {a b : World} (h : ChgS S a b) (k : ∀ i, S i → T i) : ChgS T a b := ⟨h.os, h.tape, h.output, h.size, fun i hi hq => h.block i hi (fun e => hq (k i e))⟩
theorem ChgS.alloc {S : Nat → Prop} {a b : World} (h : ChgS S a b) (o : Obj) : ChgS S a (b.alloc o) :=
  ⟨h.os, h.tape, h.output, Nat.le_trans h.size (by simp), fun k hk hg => by
    rw [← h.block k hk hg]
    exact (Below.alloc (Below.refl b.heap.size b) (Nat.le_refl _) o).block k (Nat.lt_of_lt_of_le hk h.size)⟩
theorem ChgS.refl (S : Nat → Prop) (w : World) : ChgS S w w := ⟨rfl, rfl, rfl, Nat.le_refl _, fun _ _ _ => rfl⟩
theorem ChgS.below {S : Nat → Prop} {N : Nat} {a b : World} (h : ChgS S a b) (h1 : ∀ k, S k → N ≤ k) (h2 : N ≤ a.heap.size) : Below N a b :=
  ⟨h.os, h.tape, h.output, h.size, fun k hk => h.block k (by omega) (fun e => by have := h1 k e; omega)⟩
theorem Box.chg {S : Nat → Prop} {w w' : World} {b : Nat} {vs : List Value} (h : Box w b vs) (hc : ChgS S w w') (hn : ¬ S b) : Box w' b vs :=
  have hb := hc.block b h.1 hn
  ⟨Nat.lt_of_lt_of_le h.1 hc.size, fun i v hi => (World.cell?_of_block (w := w) (w' := w') (a := ⟨b, i, none⟩) hb).trans (h.2.1 i v hi), fun o => (World.frozen?_of_block (w := w) (w' := w') (a := ⟨b, o, none⟩) hb).trans (h.2.2 o)⟩
theorem Seg.chgS {S : Nat → Prop} {w w' : World} {lo hi : Nat} {s : Value} {xs : List Int} (h : Seg w lo hi s xs) (hc : ChgS S w w') (hn : ∀ k, s.ownBlock = some k → ¬ S k) : Seg w' lo hi s xs := by
  obtain ⟨⟨h1, h2⟩, h3⟩ := h
  refine ⟨⟨h1, ?_⟩, h3⟩
  rcases h2 with h2 | ⟨g, cap, cur, hv, hg, hh, r⟩
  · exact .inl h2
  · have q2 : g < w.heap.size := by
      rcases Nat.lt_or_ge g w.heap.size with q | q
      · exact q
      · rw [Array.getElem?_eq_none q] at hh; cases hh
    exact .inr ⟨g, cap, cur, hv, hg, (hc.block g q2 (hn g (by rw [hv]; rfl))).trans hh, r⟩
theorem Seg.belowS {w w' : World} {lo hi : Nat} {s : Value} {xs : List Int} (h : Seg w lo hi s xs) (hb : Below w.heap.size w w') : Seg w' lo hi s xs := ⟨h.1.below hb, h.2⟩
theorem Seg.rng {w : World} {lo hi k : Nat} {s : Value} {xs : List Int} (h : Seg w lo hi s xs) (hk : s.ownBlock = some k) : lo ≤ k ∧ k < hi := ⟨(h.1.lt hk).2, h.2 k hk⟩
/-- A store into another block than the slice's own. -/
theorem Own.set_sep {w : World} {B : Nat} {s : Value} {xs : List Int} {p : Addr} (h : Own w B s xs) (hp : ∀ k, s.ownBlock = some k → k ≠ p.block) (u : Value) : Own (w.setCell p u) B s xs := by
  refine ownsRow_only h (only_setCell w p u) ?_
  cases hb : s.ownBlock with
  | none => exact .inl rfl
  | some b => exact .inr (fun e => hp b hb (Option.some.inj e))
theorem Seg.set_sep {w : World} {lo hi : Nat} {s : Value} {xs : List Int} {p : Addr} (h : Seg w lo hi s xs) (hp : ∀ k, s.ownBlock = some k → k ≠ p.block) (u : Value) : Seg (w.setCell p u) lo hi s xs := ⟨h.1.set_sep hp u, h.2⟩
theorem box_made2 (w : World) (u v : Value) (T : TypeId) : Box (w.alloc (Obj.cells #[u, v] T)) w.heap.size [u, v] := box_two (by simp) (by simp) (by simp) (fun o => by simp)
theorem box_made4 (w : World) (u v x y : Value) (T : TypeId) : Box (w.alloc (Obj.cells #[u, v, x, y] T)) w.heap.size [u, v, x, y] := box_four (by simp) (by simp) (by simp) (by simp) (by simp) (fun o => by simp)
theorem Own.segL {w w0 : World} {s : Value} {xs : List Int} (h : Own w w0.heap.size s xs) : ∃ lo hi, Seg w lo hi s xs ∧ lo = w0.heap.size ∧ hi = w.heap.size := ⟨_, _, Seg.of h, rfl, rfl⟩

theorem Two.ints {w : World} {B : Nat} {a1 : Option Addr} {l1 c1 : Nat} {xs : List Int} {s2 : Value} {ys : List Int} (h : Two w B a1 l1 c1 xs s2 ys) : Ints w (.slice a1 l1 c1) xs ∧ Ints w s2 ys := by
  obtain ⟨C, h1, h2, -, -⟩ := h
  exact ⟨h1.ints, h2.ints⟩
theorem Two.segL {w w0 : World} {a1 : Option Addr} {l1 c1 : Nat} {xs : List Int} {s2 : Value} {ys : List Int} (h : Two w w0.heap.size a1 l1 c1 xs s2 ys) (hb : Below w0.heap.size w0 w) : ∃ lo mid hi, Seg w lo mid (.slice a1 l1 c1) xs ∧ Seg w mid hi s2 ys ∧ lo ≤ mid ∧ mid ≤ hi ∧ lo = w0.heap.size ∧ hi = w.heap.size := by
  obtain ⟨C, h1, h2, h3, h4⟩ := h.segs hb.size
  exact ⟨_, _, _, h1, h2, h3, h4, rfl, rfl⟩

/-- Two slices of the call's own, in blocks apart. -/
def Twin (w : World) (B : Nat) (s1 : Value) (xs : List Int) (s2 : Value) (ys : List Int) : Prop := Own w B s1 xs ∧ Own w B s2 ys ∧ ∀ k, s1.ownBlock = some k → s2.ownBlock ≠ some k
theorem Twin.ints {w : World} {B : Nat} {s1 s2 : Value} {xs ys : List Int} (h : Twin w B s1 xs s2 ys) : Ints w s1 xs ∧ Ints w s2 ys := ⟨h.1.ints, h.2.1.ints⟩
theorem Twin.segT {w w0 : World} {s1 s2 : Value} {xs ys : List Int} (h : Twin w w0.heap.size s1 xs s2 ys) (_ : Below w0.heap.size w0 w) : ∃ lo hi, Seg w lo hi s1 xs ∧ Seg w lo hi s2 ys ∧ (∀ k, s1.ownBlock = some k → s2.ownBlock ≠ some k) ∧ lo = w0.heap.size ∧ hi = w.heap.size :=
  ⟨_, _, Seg.of h.1, Seg.of h.2.1, h.2.2, rfl, rfl⟩
theorem Two.twin {w : World} {B : Nat} {a1 : Option Addr} {l1 c1 : Nat} {xs : List Int} {s2 : Value} {ys : List Int} (h : Two w B a1 l1 c1 xs s2 ys) : Twin w B (.slice a1 l1 c1) xs s2 ys := by
  obtain ⟨C, h1, h2, h3, h4⟩ := h
  refine ⟨h1, h2.mono h3, fun k hk e => ?_⟩
  have q := (h2.lt e).2
  cases a1 with
  | none => cases hk
  | some ad =>
    have q2 := h4 ad rfl
    have : ad.block = k := by simpa [Value.ownBlock] using hk
    omega
theorem Two.segT {w w0 : World} {a1 : Option Addr} {l1 c1 : Nat} {xs : List Int} {s2 : Value} {ys : List Int} (h : Two w w0.heap.size a1 l1 c1 xs s2 ys) (hb : Below w0.heap.size w0 w) : ∃ lo hi, Seg w lo hi (.slice a1 l1 c1) xs ∧ Seg w lo hi s2 ys ∧ (∀ k, (Value.slice a1 l1 c1).ownBlock = some k → s2.ownBlock ≠ some k) ∧ lo = w0.heap.size ∧ hi = w.heap.size := h.twin.segT hb
def GivesRT (b n1 : Bool) (xs : List Int) (n2 : Bool) (ys : List Int) (w : World) (e : Ending) (w' : World) : Prop := ∃ a1 l1 c1 a2 l2 c2, e = .returned (.tuple #[.agg #[.bool n1, .slice a1 l1 c1, .bool n2, .slice a2 l2 c2], .bool b]) ∧ Twin w' w.heap.size (.slice a1 l1 c1) xs (.slice a2 l2 c2) ys ∧ Below w.heap.size w w'
theorem Twin.nil (w : World) (B : Nat) : Twin w B (.slice none 0 0) [] (.slice none 0 0) [] := ⟨Own.nil _ _, Own.nil _ _, fun k h => by cases h⟩
theorem Twin.set {w : World} {B : Nat} {s1 s2 : Value} {xs ys : List Int} {p : Addr} (h : Twin w B s1 xs s2 ys) (hp : p.block < B) (u : Value) : Twin (w.setCell p u) B s1 xs s2 ys := ⟨h.1.set hp u, h.2.1.set hp u, h.2.2⟩
theorem Twin.mono {w : World} {B B' : Nat} {s1 s2 : Value} {xs ys : List Int} (h : Twin w B s1 xs s2 ys) (hB : B' ≤ B) : Twin w B' s1 xs s2 ys := ⟨h.1.mono hB, h.2.1.mono hB, h.2.2⟩
/-- One slice made, then the other. -/
theorem Twin.of {w w' : World} {B : Nat} {s1 s2 : Value} {xs ys : List Int} (h1 : Own w B s1 xs) (hB : B ≤ w.heap.size) (h2 : Own w' w.heap.size s2 ys) (hb : Below w.heap.size w w') : Twin w' B s1 xs s2 ys :=
  ⟨h1.below hb, h2.mono hB, fun k hk e => by have := (h1.lt hk).1; have := (h2.lt e).2; omega⟩
theorem Twin.swap {w : World} {B : Nat} {s1 s2 : Value} {xs ys : List Int} (h : Twin w B s1 xs s2 ys) : Twin w B s2 ys s1 xs := ⟨h.2.1, h.1, fun k hk e => h.2.2 k e hk⟩

end Go.Proofs.YtfcfjlfobflmaaaDoor
