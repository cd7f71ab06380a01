import Derived.Test.YtelkmldmebdcgaaOwnX
set_option linter.unusedSimpArgs false
set_option linter.unusedVariables false
namespace Go.Proofs.Ytelkmldmebdcgaa
open Go.RowKit
/-! ### slices of slices of ints that the call makes -/

def rowV (g : Nat) (r : List Int) : Value := .slice (some ⟨g, 0, none⟩) r.length r.length
def rowO (r : List Int) : Obj := .cells (r.map (Value.int .i64)).toArray 3
/-- The slice value v, of the call's own from block B on, holds the rows: each in a block of its own. -/
def OwnLL (w : World) (B : Nat) (v : Value) (rows : List (List Int)) : Prop :=
  ∃ gs : List Nat, gs.length = rows.length ∧ gs.Nodup ∧ w.ownsRow B 32 1 v rows.length (List.zipWith rowV gs rows) ∧
    ∀ (i g : Nat) (r : List Int), gs[i]? = some g → rows[i]? = some r → B ≤ g ∧ w.heap[g]? = some (rowO r)
theorem OwnLL.nil (w : World) (B : Nat) : OwnLL w B (.slice none 0 0) [] := ⟨[], rfl, List.nodup_nil, World.ownsRow_nil _ _ _ _, by simp⟩
theorem OwnLL.slice {w : World} {B : Nat} {s : Value} {rows : List (List Int)} (h : OwnLL w B s rows) : ∃ a cap, s = .slice a rows.length cap := by
  obtain ⟨gs, _, _, h2, _⟩ := h
  rcases h2.2 with ⟨hv, hn⟩ | ⟨g, cap, cur, hv, _⟩
  · exact ⟨none, 0, by rw [hv, hn]⟩
  · exact ⟨_, cap, hv⟩
theorem heap_lt {w : World} {g : Nat} {o : Obj} (h : w.heap[g]? = some o) : g < w.heap.size := by
  rcases Nat.lt_or_ge g w.heap.size with q | q
  · exact q
  · rw [Array.getElem?_eq_none q] at h; cases h
theorem OwnLL.below {w w' : World} {B : Nat} {s : Value} {rows : List (List Int)} (h : OwnLL w B s rows) (hb : Below w.heap.size w w') : OwnLL w' B s rows := by
  obtain ⟨gs, h1, hn, ⟨h2, h3⟩, h4⟩ := h
  refine ⟨gs, h1, hn, ⟨h2, ?_⟩, fun i g r hg hr => ⟨(h4 i g r hg hr).1, (hb.block g (heap_lt (h4 i g r hg hr).2)).trans (h4 i g r hg hr).2⟩⟩
  rcases h3 with h3 | ⟨g, cap, cur, hv, hg, hh, r⟩
  · exact .inl h3
  · exact .inr ⟨g, cap, cur, hv, hg, (hb.block g (heap_lt hh)).trans hh, r⟩
theorem OwnLL.mono {w : World} {B B' : Nat} {s : Value} {rows : List (List Int)} (h : OwnLL w B s rows) (hB : B' ≤ B) : OwnLL w B' s rows := by
  obtain ⟨gs, h1, hn, ⟨h2, h3⟩, h4⟩ := h
  refine ⟨gs, h1, hn, ⟨h2, ?_⟩, fun i g r hg hr => ⟨Nat.le_trans hB (h4 i g r hg hr).1, (h4 i g r hg hr).2⟩⟩
  rcases h3 with h3 | ⟨g, cap, cur, hv, hg, r⟩
  · exact .inl h3
  · exact .inr ⟨g, cap, cur, hv, Nat.le_trans hB hg, r⟩
theorem infoRow : (Try.prog.info? 32).map (fun i => (i.zero, i.size, i.bytes)) = some (some (.slice none 0 0), 1, 24) := by kernel_rfl
theorem rowO_ne {r : List Int} {cur : Array Value} : rowO r ≠ .cells cur 32 (0, 0) := by
  unfold rowO; intro h; simp at h
/-- append(out, row) for a row that was just made. -/
theorem wpl_appLL {ops : Array Oper} {rest : List Oper} {o : Oper} {a : Act} {Q : Exit → Act → World → Prop} {W w : World} (hgd : o.guard = none) (s x : Operand)
    (ho : o.op = .call { callee := .builtin .append, args := #[s, x], argTypes := #[28, 28] }) (B : Nat) (v : Value) (rows : List (List Int)) (hs : a.eval s = v) (hown : OwnLL w B v rows)
    (c : Nat) (r : List Int) (arr : Array Value) (harr : arr = (r.map (Value.int .i64)).toArray) (hx : a.eval x = .slice (some ⟨w.heap.size + 1, 0, none⟩) 1 c) (l : Nat) (hl : l = r.length)
    (hlen : rows.length ≤ 1000000000000) (hb : Below B W w) (hB : B ≤ w.heap.size)
    (h : ∀ a' cap' w', OwnLL w' B (.slice a' (rows.length + 1) cap') (rows ++ [r]) → Below B W w' → B ≤ w'.heap.size → wpList Try.prog ops Q rest (a.put o.dst (.slice a' (rows.length + 1) cap')) w') :
    wpList Try.prog ops Q (o :: rest) a ((w.alloc (.cells arr 3)).alloc (.cells #[.slice (some ⟨w.heap.size, 0, none⟩) l l] 32)) := by
  subst harr hl
  obtain ⟨i0, hi, hz0, hz1, hz2⟩ := info_parts infoRow
  have hown0 := hown
  obtain ⟨gs, h1, hn, h2, h3⟩ := hown
  have hgs : ∀ g ∈ gs, g < w.heap.size := by
    intro g hg
    obtain ⟨i, hi1, hi2⟩ := List.mem_iff_getElem.1 hg
    have hr : i < rows.length := by omega
    exact heap_lt (h3 i g rows[i] (by rw [List.getElem?_eq_getElem hi1, hi2]) (List.getElem?_eq_getElem hr)).2
  have h2' := (_root_.Go.World.ownsRow.alloc (_root_.Go.World.ownsRow.alloc h2 (rowO r)) (.cells #[rowV w.heap.size r] 32))
  refine wpList_append_own _ hgd s x 28 ho B 32 i0 (.slice none 0 0) 1 24 Try.underlying28 hi hz0 hz1 hz2 rfl (by decide) v rows.length _ hs h2' ⟨w.heap.size + 1, 0, none⟩ 1 c [rowV w.heap.size r] hx rfl ?_ ?_ (by unfold maxLen; omega) (by omega) (by simp; omega) ?_
  · intro j u hj
    match j, hj with
    | 0, hj => simp at hj; subst hj; simp [Addr.add, rowV]
  · intro u hu; simp at hu; subst hu; rfl
  · intro v' w' h4 h5 h6
    have e0 : (w.alloc (rowO r)).heap[w.heap.size]? = some (rowO r) := heap_alloc_new w _
    have e1 : ((w.alloc (rowO r)).alloc (.cells #[rowV w.heap.size r] 32)).heap[w.heap.size]? = some (rowO r) := (Below.heap_alloc _ _ _ (by simp)).trans e0
    have kept : ∀ (k : Nat) (q : List Int), ((w.alloc (rowO r)).alloc (.cells #[rowV w.heap.size r] 32)).heap[k]? = some (rowO q) → w'.heap[k]? = some (rowO q) := by
      intro k q hk
      refine (h5.block k (heap_lt hk) ?_).trans hk
      intro e
      rcases h2'.2 with ⟨hv, _⟩ | ⟨g, cap, cur, hv, _, hh, _⟩
      · subst hv; simp [Value.ownBlock] at e
      · subst hv
        simp [Value.ownBlock] at e
        subst e
        rw [hk] at hh
        exact rowO_ne (Option.some.inj hh)
    have key : OwnLL w' B v' (rows ++ [r]) := by
      refine ⟨gs ++ [w.heap.size], by simp [h1], ?_, ?_, ?_⟩
      · rw [List.nodup_append]
        refine ⟨hn, by simp, fun x hx y hy => ?_⟩
        obtain rfl : y = w.heap.size := by simpa using hy
        have := hgs x hx
        omega
      · have : List.zipWith rowV (gs ++ [w.heap.size]) (rows ++ [r]) = List.zipWith rowV gs rows ++ [rowV w.heap.size r] := by
          rw [List.zipWith_append h1]; rfl
        rw [this, List.length_append]
        exact h4
      · intro i g q hg hq
        by_cases hi2 : i < gs.length
        · rw [List.getElem?_append_left hi2] at hg
          rw [List.getElem?_append_left (by omega)] at hq
          have := h3 i g q hg hq
          refine ⟨this.1, kept g q ?_⟩
          exact (Below.heap_alloc _ _ _ (by have := heap_lt this.2; simp; omega)).trans ((Below.heap_alloc _ _ _ (heap_lt this.2)).trans this.2)
        · rw [List.getElem?_append_right (by omega)] at hg
          rw [List.getElem?_append_right (by omega)] at hq
          have hz : i - gs.length = 0 := by
            rcases Nat.eq_zero_or_pos (i - gs.length) with z | z
            · exact z
            · rw [List.getElem?_eq_none (by simp; omega)] at hg; cases hg
          have hz' : i - rows.length = 0 := by omega
          rw [hz] at hg; rw [hz'] at hq
          simp at hg hq
          subst hg hq
          exact ⟨hB, kept _ _ e1⟩
    obtain ⟨a', cap', rfl⟩ := key.slice
    simp only [List.length_append, List.length_cons, List.length_nil] at key ⊢
    have hb2 : Below B W ((w.alloc (rowO r)).alloc (.cells #[rowV w.heap.size r] 32)) := (hb.alloc hB _).alloc (by simp; omega) _
    refine h a' cap' w' key (hb2.grown h5 (by simp; omega) ?_) (Nat.le_trans hB (Nat.le_trans (by simp; omega) h5.size))
    intro k hk
    exact (_root_.Go.World.ownsRow.lt h2' k hk).1
/-- What is read of it. -/
theorem OwnLL.cell {w : World} {B : Nat} {a : Option Addr} {n cap : Nat} {rows : List (List Int)} (h : OwnLL w B (.slice a n cap) rows) : rows.length = n ∧ n ≤ 9223372036854775807 ∧
    ∀ i r, rows[i]? = some r → ∃ b g, a = some ⟨b, 0, none⟩ ∧ b < w.heap.size ∧ w.cell? ⟨b, i, none⟩ = some (.slice (some ⟨g, 0, none⟩) r.length r.length) ∧ g < w.heap.size ∧ ∀ j, j < r.length → w.cell? ⟨g, j, none⟩ = some (.int .i64 (r.getD j 0)) := by
  obtain ⟨gs, h1, hn, h2, h3⟩ := h
  rcases h2.2 with ⟨hv, hz⟩ | ⟨g, cap', cur, hv, hg, hh, hc, hm, hs, ht⟩
  · obtain ⟨rfl, rfl, rfl⟩ := by simpa using hv
    have : rows = [] := List.length_eq_zero_iff.1 hz
    subst this
    exact ⟨rfl, by omega, by simp⟩
  · simp only [Value.slice.injEq] at hv
    obtain ⟨rfl, rfl, rfl⟩ := hv
    refine ⟨rfl, by unfold maxLen at hm; omega, fun i r hr => ?_⟩
    have hi : i < rows.length := by
      rcases Nat.lt_or_ge i rows.length with q | q
      · exact q
      · rw [List.getElem?_eq_none q] at hr; cases hr
    have hgi : gs[i]? = some gs[i] := List.getElem?_eq_getElem (by omega)
    have h4 := h3 i _ r hgi hr
    refine ⟨g, gs[i], rfl, heap_lt hh, ?_, heap_lt h4.2, fun j hj => ?_⟩
    · have := _root_.Go.World.ownsRow.cellAt h2 i (by omega)
      rw [this, List.getElem?_zipWith, hgi, hr]
      rfl
    · have : w.cell? ⟨gs[i], j, none⟩ = ((r.map (Value.int .i64)).toArray)[j]? := by
        simp [World.cell?, h4.2, rowO]
      rw [this]
      simp [List.getD, List.getElem?_eq_getElem hj]
/-- The call hands back a slice of rows of its own. -/
def GivesLL (rows : List (List Int)) (w : World) (e : Ending) (w' : World) : Prop := ∃ a len cap, e = .returned (.slice a len cap) ∧ OwnLL w' w.heap.size (.slice a len cap) rows ∧ Below w.heap.size w w'

end Go.Proofs.Ytelkmldmebdcgaa
