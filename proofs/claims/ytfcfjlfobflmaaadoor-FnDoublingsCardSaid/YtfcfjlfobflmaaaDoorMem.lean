import Derived.Test.YtfcfjlfobflmaaaDoorNumC
set_option linter.unusedSimpArgs false
set_option linter.unusedVariables false
namespace Go.Proofs.YtfcfjlfobflmaaaDoor
open Go.RowKit
/-! ### slices of ints that are read -/
/-- The slice value s reads as the numbers xs. -/
def Ints (w : World) (s : Value) (xs : List Int) : Prop :=
  (∃ a cap, s = .slice a 0 cap ∧ xs = []) ∨
  (∃ b off len cap, s = .slice (some ⟨b, off, none⟩) len cap ∧ xs.length = len ∧ 0 < len ∧ len ≤ cap ∧ cap ≤ maxLen ∧ b < w.heap.size ∧ ∀ i, i < len → w.cell? ⟨b, off + i, none⟩ = some (.int .i64 (xs.getD i 0)))
theorem Ints.below {w w' : World} {s : Value} {xs : List Int} (h : Ints w s xs) (hb : Below w.heap.size w w') : Ints w' s xs := by
  rcases h with h | ⟨b, off, len, cap, hs, hl, h0, hc, hm, hbl, hcell⟩
  · exact .inl h
  · exact .inr ⟨b, off, len, cap, hs, hl, h0, hc, hm, Nat.lt_of_lt_of_le hbl hb.size, fun i hi => (hb.cell (p := ⟨b, off + i, none⟩) hbl).trans (hcell i hi)⟩

/-- The slice value s, of the call's own from block B on, holds the numbers xs. -/
def Own (w : World) (B : Nat) (s : Value) (xs : List Int) : Prop := w.ownsRow B 3 1 s xs.length (xs.map (Value.int .i64))
theorem Own.ints {w : World} {B : Nat} {s : Value} {xs : List Int} (h : Own w B s xs) : Ints w s xs := by
  obtain ⟨h1, h2⟩ := h
  rcases h2 with ⟨hv, hn⟩ | ⟨g, cap, cur, hv, hg, hh, hc, hm, hs, ht⟩
  · exact .inl ⟨none, 0, by rw [hv], by simpa using hn⟩
  · by_cases h0 : xs.length = 0
    · exact .inl ⟨some ⟨g, 0, none⟩, cap, by rw [hv, h0], by simpa using h0⟩
    · refine .inr ⟨g, 0, xs.length, cap, hv, rfl, by omega, hc, hm, ?_, fun i hi => ?_⟩
      · rcases Nat.lt_or_ge g w.heap.size with q | q
        · exact q
        · rw [Array.getElem?_eq_none q] at hh; cases hh
      · have h' : w.ownsRow B 3 1 (.slice (some ⟨g, 0, none⟩) xs.length cap) xs.length (xs.map (Value.int .i64)) := ⟨h1, .inr ⟨g, cap, cur, rfl, hg, hh, hc, hm, hs, ht⟩⟩
        have := World.ownsRow.cellAt h' i (by omega)
        rw [Nat.zero_add, this]
        simp [List.getD, List.getElem?_eq_getElem hi]
theorem Own.below {w w' : World} {B : Nat} {s : Value} {xs : List Int} (h : Own w B s xs) (hb : Below w.heap.size w w') : Own w' B s xs := by
  obtain ⟨h1, h2⟩ := h
  refine ⟨h1, ?_⟩
  rcases h2 with h2 | ⟨g, cap, cur, hv, hg, hh, r⟩
  · exact .inl h2
  · have q : g < w.heap.size := by
      rcases Nat.lt_or_ge g w.heap.size with q | q
      · exact q
      · rw [Array.getElem?_eq_none q] at hh; cases hh
    exact .inr ⟨g, cap, cur, hv, hg, (hb.block g q).trans hh, r⟩
theorem Own.mono {w : World} {B B' : Nat} {s : Value} {xs : List Int} (h : Own w B s xs) (hB : B' ≤ B) : Own w B' s xs := by
  obtain ⟨h1, h2⟩ := h
  refine ⟨h1, ?_⟩
  rcases h2 with h2 | ⟨g, cap, cur, hv, hg, r⟩
  · exact .inl h2
  · exact .inr ⟨g, cap, cur, hv, Nat.le_trans hB hg, r⟩

theorem infoInt : (Tryd.prog.info? 3).map (fun i => (i.zero, i.size, i.bytes)) = some (some (.int .i64 0), 1, 8) := by kernel_rfl
theorem World.ownsRow.lt {w : World} {B : Nat} {E : TypeId} {size g n cap : Nat} {xs : List Value} (h : w.ownsRow B E size (.slice (some ⟨g, 0, none⟩) n cap) n xs) : g < w.heap.size := by
  rcases h.2 with ⟨h', _⟩ | ⟨g', cap', cur, h', _, hh, _⟩
  · simp at h'
  · simp only [Value.slice.injEq, Option.some.injEq, Addr.mk.injEq, and_true, true_and] at h'
    obtain ⟨rfl, rfl⟩ := h'
    rcases Nat.lt_or_ge g w.heap.size with q | q
    · exact q
    · rw [Array.getElem?_eq_none q] at hh; cases hh
/-- The call hands back a slice of its own that holds xs. -/
def GivesOwn (xs : List Int) (w : World) (e : Ending) (w' : World) : Prop := ∃ a len cap, e = .returned (.slice a len cap) ∧ Own w' w.heap.size (.slice a len cap) xs ∧ Below w.heap.size w w'

def rowK (xs : List Int) (k : Nat) : List Value := (xs.take k).map (Value.int .i64) ++ List.replicate (xs.length - k) (.int .i64 0)
theorem rowK_0 (xs : List Int) : rowK xs 0 = List.replicate xs.length (.int .i64 0) := by simp [rowK]
theorem rowK_all (xs : List Int) : rowK xs xs.length = xs.map (Value.int .i64) := by simp [rowK]
theorem rowK_set (xs : List Int) (k : Nat) (h : k < xs.length) : (rowK xs k).set k (.int .i64 (xs.getD k 0)) = rowK xs (k + 1) := by
  unfold rowK
  have e1 : xs.length - k = (xs.length - (k + 1)) + 1 := by omega
  rw [e1, List.replicate_succ, List.set_append_right _ _ (by simp; omega)]
  have e2 : k - ((xs.take k).map (Value.int .i64)).length = 0 := by simp; omega
  rw [e2, List.set_cons_zero, List.take_succ_eq_append_getElem h, List.map_append]
  simp [List.getD, List.getElem?_eq_getElem h]

end Go.Proofs.YtfcfjlfobflmaaaDoor
