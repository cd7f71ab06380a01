import Derived.Test.YtfcfjlfobflmaaaDoorMem
set_option linter.unusedSimpArgs false
set_option linter.unusedVariables false
namespace Go.Proofs.YtfcfjlfobflmaaaDoor
open Go.RowKit
/-! ### slices of ints that the call makes -/
theorem Ints.of_open {w : World} {x : Addr} {len cap : Nat} {zs : List Int} (hl : len ≤ cap) (hm : cap ≤ maxLen) (hz : zs.length = cap) (hcell : ∀ i, i < zs.length → w.cell? (x.add i) = some (.int .i64 (zs.getD i 0))) : Ints w (.slice (some x) len cap) (zs.take len) := by
  by_cases h0 : len = 0
  · subst h0; exact .inl ⟨some x, cap, rfl, by simp⟩
  · obtain ⟨b, off, spot⟩ := x
    have hc := hcell 0 (by omega)
    have hspot : spot = none := by simpa [Addr.add] using World.cell?_spot hc
    subst hspot
    refine .inr ⟨b, off, len, cap, rfl, by simp; omega, by omega, hl, hm, World.block_lt_of_cell? w _ hc, fun i hi => ?_⟩
    have := hcell i (by omega)
    have e : (⟨b, off, none⟩ : Addr).add i = ⟨b, off + i, none⟩ := by cases i <;> simp [Addr.add]
    rw [e] at this
    rw [this]
    simp [List.getD, List.getElem?_take, hi]

theorem gives_of_quiet {v : Value} {w : World} {e : Ending} {w' : World} (h : Quiet v w e w') : Gives v w e w' := by
  obtain ⟨he, n, hw⟩ := h
  subst hw
  exact ⟨he, below_drewN (Below.refl _ _) n⟩
theorem gives_of_same {v : Value} {w : World} {e : Ending} {w' : World} (h : Same v w e w') : Gives v w e w' := by
  obtain ⟨he, hw⟩ := h
  subst hw
  exact ⟨he, Below.refl _ _⟩

theorem Own.alloc {w : World} {B : Nat} {s : Value} {xs : List Int} (h : Own w B s xs) (o : Obj) : Own (w.alloc o) B s xs := World.ownsRow.alloc h o
theorem Own.nil (w : World) (B : Nat) : Own w B (.slice none 0 0) [] := World.ownsRow_nil _ _ _ _
/-- The world under one name. -/
theorem name_world {P : Program} {c : Code} {Q : Exit → Act → World → Prop} {a : Act} {w : World} (h : ∀ W, W = w → c.wp P Q a W) : c.wp P Q a w := h w rfl
theorem Own.slice {w : World} {B : Nat} {s : Value} {xs : List Int} (h : Own w B s xs) : ∃ a cap, s = .slice a xs.length cap := by
  obtain ⟨_, h2⟩ := h
  rcases h2 with ⟨hv, hn⟩ | ⟨g, cap, cur, hv, _⟩
  · exact ⟨none, 0, by rw [hv, hn]⟩
  · exact ⟨_, cap, hv⟩
/-- append(out, y) for a slice of the call's own. -/
theorem wpl_app {ops : Array Oper} {rest : List Oper} {o : Oper} {a : Act} {Q : Exit → Act → World → Prop} {W w : World} (hgd : o.guard = none) (s x : Operand)
    (ho : o.op = .call { callee := .builtin .append, args := #[s, x], argTypes := #[38, 38] }) (B : Nat) (v : Value) (xs : List Int) (hs : a.eval s = v) (hown : Own w B v xs)
    (ad : Addr) (c : Nat) (y : Int) (hx : a.eval x = .slice (some ad) 1 c) (hc : w.cell? ad = some (.int .i64 y)) (hlen : xs.length ≤ 1000000000000) (hb : Below B W w) (hB : B ≤ w.heap.size)
    (h : ∀ a' cap' w', Own w' B (.slice a' (xs.length + 1) cap') (xs ++ [y]) → Below B W w' → B ≤ w'.heap.size → wpList Tryd.prog ops Q rest (a.put o.dst (.slice a' (xs.length + 1) cap')) w') : wpList Tryd.prog ops Q (o :: rest) a w := by
  obtain ⟨i0, hi, hz0, hz1, hz2⟩ := info_parts infoInt
  refine wpList_append_own w hgd s x 38 ho B 3 i0 (.int .i64 0) 1 8 Tryd.underlying38 hi hz0 hz1 hz2 rfl (by decide) v xs.length (xs.map (Value.int .i64)) hs hown ad 1 c [.int .i64 y] hx rfl ?_ ?_ (by unfold maxLen; omega) (by omega) hB ?_
  · intro j u hj
    match j, hj with
    | 0, hj => simp at hj; subst hj; simpa [Addr.add] using hc
  · intro u hu; simp at hu; subst hu; rfl
  · intro v' w' h1 h2 h3
    have ho' : Own w' B v' (xs ++ [y]) := by
      unfold Own
      simpa using h1
    obtain ⟨a', cap', rfl⟩ := ho'.slice
    simp only [List.length_append, List.length_cons, List.length_nil] at ho' ⊢
    refine h a' cap' w' ho' (hb.grown h2 hB ?_) (Nat.le_trans hB h2.size)
    intro k hk
    exact (_root_.Go.World.ownsRow.lt hown k hk).1
theorem Ints.cell {w : World} {a : Option Addr} {len cap : Nat} {xs : List Int} (h : Ints w (.slice a len cap) xs) : xs.length = len ∧ len ≤ 9223372036854775807 ∧ ∀ i, i < len → ∃ b off, a = some ⟨b, off, none⟩ ∧ b < w.heap.size ∧ w.cell? ⟨b, off + i, none⟩ = some (.int .i64 (xs.getD i 0)) := by
  rcases h with ⟨a', cap', hs, rfl⟩ | ⟨b, off, len', cap', hs, hl, h0, hc, hm, hbl, hcell⟩
  · obtain ⟨rfl, rfl, rfl⟩ := by simpa using hs
    exact ⟨rfl, by omega, fun i h => by omega⟩
  · obtain ⟨rfl, rfl, rfl⟩ := by simpa using hs
    exact ⟨hl, by unfold maxLen at hm; omega, fun i h => ⟨b, off, rfl, hbl, hcell i h⟩⟩

theorem ownsRow_below {w w' : World} {B : Nat} {E : TypeId} {size : Nat} {v : Value} {n : Nat} {xs : List Value} (h : w.ownsRow B E size v n xs) (hb : Below w.heap.size w w') : w'.ownsRow B E size v n xs := by
  obtain ⟨h2, h3⟩ := h
  refine ⟨h2, ?_⟩
  rcases h3 with h3 | ⟨g, cap, cur, hv, hg, hh, r⟩
  · exact .inl h3
  · have hlt : g < w.heap.size := by
      rcases Nat.lt_or_ge g w.heap.size with q | q
      · exact q
      · rw [Array.getElem?_eq_none q] at hh; cases hh
    exact .inr ⟨g, cap, cur, hv, hg, (hb.block g hlt).trans hh, r⟩
theorem ownsRow_mono {w : World} {B B' : Nat} {E : TypeId} {size : Nat} {v : Value} {n : Nat} {xs : List Value} (h : w.ownsRow B E size v n xs) (hB : B' ≤ B) : w.ownsRow B' E size v n xs := by
  obtain ⟨h2, h3⟩ := h
  refine ⟨h2, ?_⟩
  rcases h3 with h3 | ⟨g, cap, cur, hv, hg, r⟩
  · exact .inl h3
  · exact .inr ⟨g, cap, cur, hv, Nat.le_trans hB hg, r⟩
theorem ownsRow_slice {w : World} {B : Nat} {E : TypeId} {size : Nat} {v : Value} {n : Nat} {xs : List Value} (h : w.ownsRow B E size v n xs) : ∃ a cap, v = .slice a n cap := by
  rcases h.2 with ⟨hv, hn⟩ | ⟨g, cap, cur, hv, _⟩
  · exact ⟨none, 0, by rw [hv, hn]⟩
  · exact ⟨_, cap, hv⟩
/-- Nothing but block g may have changed. -/
structure Only (g : Option Nat) (w w' : World) : Prop where
  os : w'.os = w.os
  tape : w'.tape = w.tape
  output : w'.output = w.output
  size : w.heap.size ≤ w'.heap.size
  block : ∀ k, k < w.heap.size → some k ≠ g → w'.heap[k]? = w.heap[k]?
theorem Only.refl (g : Option Nat) (w : World) : Only g w w := ⟨rfl, rfl, rfl, Nat.le_refl _, fun _ _ _ => rfl⟩
theorem Only.trans {g : Option Nat} {a b c : World} (h : Only g a b) (k : Only g b c) : Only g a c :=
  ⟨k.os.trans h.os, k.tape.trans h.tape, k.output.trans h.output, Nat.le_trans h.size k.size, fun i hi hg => (k.block i (Nat.lt_of_lt_of_le hi h.size) hg).trans (h.block i hi hg)⟩
theorem Only.of_grown {g : Option Nat} {a b : World} (h : a.grownBy b g) : Only g a b := ⟨h.os, h.tape, h.output, h.size, h.block⟩
theorem Only.drew {g : Option Nat} {a b : World} (h : Only g a b) : Only g a b.drew := ⟨h.os, h.tape, h.output, h.size, h.block⟩
theorem Only.drewN {g : Option Nat} {a b : World} (h : Only g a b) (n : Nat) : Only g a (b.drewN n) := by
  refine ⟨?_, ?_, ?_, ?_, ?_⟩ <;> first | exact h.os | exact h.tape | exact h.output | exact h.size | exact h.block
theorem Only.below {g : Option Nat} {a b : World} {B : Nat} (h : Only g a b) (hB : B ≤ a.heap.size) (hg : ∀ k, g = some k → B ≤ k) : Below B a b :=
  ⟨h.os, h.tape, h.output, h.size, fun k hk => h.block k (by omega) (fun e => by have := hg k e.symm; omega)⟩
theorem ownsRow_only {w w' : World} {B : Nat} {E : TypeId} {size : Nat} {v : Value} {n : Nat} {xs : List Value} {g : Option Nat} (h : w.ownsRow B E size v n xs) (ho : Only g w w') (hne : v.ownBlock = none ∨ v.ownBlock ≠ g) : w'.ownsRow B E size v n xs := by
  obtain ⟨h2, h3⟩ := h
  refine ⟨h2, ?_⟩
  rcases h3 with h3 | ⟨b, cap, cur, hv, hb, hh, r⟩
  · exact .inl h3
  · have hlt : b < w.heap.size := by
      rcases Nat.lt_or_ge b w.heap.size with q | q
      · exact q
      · rw [Array.getElem?_eq_none q] at hh; cases hh
    refine .inr ⟨b, cap, cur, hv, hb, (ho.block b hlt ?_).trans hh, r⟩
    subst hv
    simpa [Value.ownBlock] using hne

end Go.Proofs.YtfcfjlfobflmaaaDoor
