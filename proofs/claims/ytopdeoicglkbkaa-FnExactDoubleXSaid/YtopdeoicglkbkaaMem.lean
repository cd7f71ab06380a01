import Derived.Test.YtopdeoicglkbkaaNumC
set_option linter.unusedSimpArgs false
set_option linter.unusedVariables false
namespace Go.Proofs.Ytopdeoicglkbkaa
open Go.RowKit
/-! ### slices of ints that are read -/
/-- The slice value s reads as the numbers xs. -/
def Ints (w : World) (s : Value) (xs : List Int) : Prop :=
  (∃ a cap, s = .slice a 0 cap ∧ xs = []) ∨
  (∃ b off len cap, s = .slice (some ⟨b, off, none⟩) len cap ∧ xs.length = len ∧ 0 < len ∧ len ≤ cap ∧ cap ≤ maxLen ∧ b < w.heap.size ∧ ∀ i, i < len → w.cell? ⟨b, off + i, none⟩ = some (.int .i64 (xs.getD i 0)))
theorem Ints.below {w w' : World} {s : Value} {xs : List Int} (h : Ints w s xs) (hb : Below w.heap.size w w') : Ints w' s xs := by
  rcases h with h | ⟨b, off, len, cap, hs, hl, h0, hc, hm, hbl, hcell⟩
  · exact .inl h
  · exact .inr ⟨b, off, len, cap, hs, hl, h0, hc, hm, Nat.lt_of_lt_of_le hbl hb.size, fun i hi => (hb.cell (p := ⟨b, off + i, none⟩) hbl).trans (hcell i hi)⟩

/-- The slice value s, of the call's own from block B on, holds the numbers xs. -/
def Own (w : World) (B : Nat) (s : Value) (xs : List Int) : Prop := w.ownsRow B 3 1 s xs.length (xs.map (Value.int .i64))
theorem Own.ints {w : World} {B : Nat} {s : Value} {xs : List Int} (h : Own w B s xs) : Ints w s xs := by
  obtain ⟨h1, h2⟩ := h
  rcases h2 with ⟨hv, hn⟩ | ⟨g, cap, cur, hv, hg, hh, hc, hm, hs, ht⟩
  · exact .inl ⟨none, 0, by rw [hv], by simpa using hn⟩
  · by_cases h0 : xs.length = 0
    · exact .inl ⟨some ⟨g, 0, none⟩, cap, by rw [hv, h0], by simpa using h0⟩
    · refine .inr ⟨g, 0, xs.length, cap, hv, rfl, by omega, hc, hm, ?_, fun i hi => ?_⟩
      · rcases Nat.lt_or_ge g w.heap.size with q | q
        · exact q
        · rw [Array.getElem?_eq_none q] at hh; cases hh
      · have h' : w.ownsRow B 3 1 (.slice (some ⟨g, 0, none⟩) xs.length cap) xs.length (xs.map (Value.int .i64)) := ⟨h1, .inr ⟨g, cap, cur, rfl, hg, hh, hc, hm, hs, ht⟩⟩
        have := World.ownsRow.cellAt h' i (by omega)
        rw [Nat.zero_add, this]
        simp [List.getD, List.getElem?_eq_getElem hi]
theorem Own.below {w w' : World} {B : Nat} {s : Value} {xs : List Int} (h : Own w B s xs) (hb : Below w.heap.size w w') : Own w' B s xs := by
  obtain ⟨h1, h2⟩ := h
  refine ⟨h1, ?_⟩
  rcases h2 with h2 | ⟨g, cap, cur, hv, hg, hh, r⟩
  · exact .inl h2
  · have q : g < w.heap.size := by
      rcases Nat.lt_or_ge g w.heap.size with q | q
      · exact q
      · rw [Array.getElem?_eq_none q] at hh; cases hh
    exact .inr ⟨g, cap, cur, hv, hg, (hb.block g q).trans hh, r⟩
theorem Own.mono {w : World} {B B' : Nat} {s : Value} {xs : List Int} (h : Own w B s xs) (hB : B' ≤ B) : Own w B' s xs := by
  obtain ⟨h1, h2⟩ := h
  refine ⟨h1, ?_⟩
  rcases h2 with h2 | ⟨g, cap, cur, hv, hg, r⟩
  · exact .inl h2
  · exact .inr ⟨g, cap, cur, hv, Nat.le_trans hB hg, r⟩

def szL (xs : List Int) (left : Int) : Int := if left - (xs.length : Int) < 0 then -1 else left - (xs.length : Int)
theorem szIntS_any (s : Value) (xs : List Int) (left : Int) (h1 : 0 ≤ left) (h2 : left ≤ 1048576) (w : World) (hx : Ints w s xs) : Calls Try.prog 52 #[s, .int .i64 left] w (Same (.int .i64 (szL xs left)) w) := by
  have key : ∀ (a : Option Addr) (len cap : Nat), len ≤ 9223372036854775807 → Calls Try.prog 52 #[.slice a len cap, .int .i64 left] w (Same (.int .i64 (if left - (len : Int) < 0 then -1 else left - (len : Int))) w) := by
    intro a len cap hl
    by_cases hn : left - (len : Int) < 0
    · have E := Lib.hid (show (if left - (len : Int) < 0 then -1 else left - (len : Int)) = -1 by rw [if_pos hn])
      rw [E.out]
      go_enter Try.func52, Try.ntmps52
      go_wp2
      go_ret; exact same rfl
    · have E := Lib.hid (show (if left - (len : Int) < 0 then -1 else left - (len : Int)) = left - len by rw [if_neg hn])
      rw [E.out]
      go_enter Try.func52, Try.ntmps52
      go_wp2
      go_ret; exact same rfl
  rcases hx with ⟨a, cap, rfl, rfl⟩ | ⟨b, off, len, cap, rfl, rfl, h0, hc, hm, hbl, hcell⟩
  · exact key a 0 cap (by omega)
  · exact key _ _ cap (by unfold maxLen at hm; omega)

theorem eqIntS_same (s t : Value) (xs : List Int) (w : World) (hx : Ints w s xs) (hy : Ints w t xs) : Calls Try.prog 59 #[s, t] w (Gives (.bool true) w) := by
  rcases hx with ⟨a, cap, rfl, hx0⟩ | ⟨b, off, len, cap, rfl, hl, h0, hc, hm, hbl, hcell⟩
  · rcases hy with ⟨a', cap', rfl, _⟩ | ⟨b', off', len', cap', rfl, hl', h0', _⟩
    · clear hx0
      go_enter Try.func59, Try.ntmps59
      go_wp2
      refine wp_loop_rounds 1 ?_; rw [rounds_succ]
      go_wp2
      go_ret
      exact gives rfl (by repeat' (first | (with_reducible exact Below.refl _ _) | (with_reducible assumption) | (with_reducible refine Below.alloc ?_ ?_ _) | (with_reducible refine Below.setCell ?_ ?_ _) | (with_reducible refine Below.drew ?_) | (with_reducible refine below_drewN ?_ _) | (apply bthen2; (with_reducible assumption)) | go_size))
    · subst hx0; simp at hl'; omega
  · rcases hy with ⟨a', cap', rfl, hy0⟩ | ⟨b', off', len', cap', rfl, hl', h0', hc', hm', hbl', hcell'⟩
    · subst hy0; simp at hl; omega
    · obtain rfl : len = len' := by omega
      unfold maxLen at hm hm'
      have HC := Lib.hid hcell; have HC' := Lib.hid hcell'; clear hcell hcell' hl hl'
      go_enter Try.func59, Try.ntmps59
      go_wp2
      go_loopw [5] (fun v9 wr => ∃ k : Nat, k ≤ len ∧ v9 = .int .i64 k ∧ ∃ n, wr = w.drewN n) (fun v9 _ => len - (intOf v9).toNat)
      case atStart => exact ⟨0, by omega, rfl, 0, rfl⟩
      case round =>
        obtain ⟨k, hk, rfl, n, rfl⟩ := hrel
        by_cases hlt : k < len
        · have c1 := HC.out k hlt
          have c2 := HC'.out k hlt
          go_wp2
          go_quiet (fail)
          go_wp2
          go_roundw
          case rel => exact ⟨k + 1, by omega, by go_num, _, rfl⟩
          case measure => simp [intOf]; omega
        · go_wp2
          go_ret
          exact gives rfl (by repeat' (first | (with_reducible exact Below.refl _ _) | (with_reducible assumption) | (with_reducible refine Below.alloc ?_ ?_ _) | (with_reducible refine Below.setCell ?_ ?_ _) | (with_reducible refine Below.drew ?_) | (with_reducible refine below_drewN ?_ _) | (apply bthen2; (with_reducible assumption)) | go_size))

theorem infoInt : (Try.prog.info? 3).map (fun i => (i.zero, i.size, i.bytes)) = some (some (.int .i64 0), 1, 8) := by kernel_rfl
theorem World.ownsRow.lt {w : World} {B : Nat} {E : TypeId} {size g n cap : Nat} {xs : List Value} (h : w.ownsRow B E size (.slice (some ⟨g, 0, none⟩) n cap) n xs) : g < w.heap.size := by
  rcases h.2 with ⟨h', _⟩ | ⟨g', cap', cur, h', _, hh, _⟩
  · simp at h'
  · simp only [Value.slice.injEq, Option.some.injEq, Addr.mk.injEq, and_true, true_and] at h'
    obtain ⟨rfl, rfl⟩ := h'
    rcases Nat.lt_or_ge g w.heap.size with q | q
    · exact q
    · rw [Array.getElem?_eq_none q] at hh; cases hh
/-- The call hands back a slice of its own that holds xs. -/
def GivesOwn (xs : List Int) (w : World) (e : Ending) (w' : World) : Prop := ∃ a len cap, e = .returned (.slice a len cap) ∧ Own w' w.heap.size (.slice a len cap) xs ∧ Below w.heap.size w w'
def rowK (xs : List Int) (k : Nat) : List Value := (xs.take k).map (Value.int .i64) ++ List.replicate (xs.length - k) (.int .i64 0)
theorem rowK_0 (xs : List Int) : rowK xs 0 = List.replicate xs.length (.int .i64 0) := by simp [rowK]
theorem rowK_all (xs : List Int) : rowK xs xs.length = xs.map (Value.int .i64) := by simp [rowK]
theorem rowK_set (xs : List Int) (k : Nat) (h : k < xs.length) : (rowK xs k).set k (.int .i64 (xs.getD k 0)) = rowK xs (k + 1) := by
  unfold rowK
  have e1 : xs.length - k = (xs.length - (k + 1)) + 1 := by omega
  rw [e1, List.replicate_succ, List.set_append_right _ _ (by simp; omega)]
  have e2 : k - ((xs.take k).map (Value.int .i64)).length = 0 := by simp; omega
  rw [e2, List.set_cons_zero, List.take_succ_eq_append_getElem h, List.map_append]
  simp [List.getD, List.getElem?_eq_getElem h]
set_option maxHeartbeats 1000000 in
theorem toIntS_any (s : Value) (xs : List Int) (w : World) (hx : Ints w s xs) (hn : xs.length ≤ 1048576) : Calls Try.prog 55 #[s] w (GivesOwn xs w) := by
  obtain ⟨i0, hi, hz0, hz1, hz2⟩ := info_parts infoInt
  have hb8 : i0.bytes * xs.length ≤ 281474976710656 := by rw [hz2]; omega
  have hml : xs.length ≤ maxLen := by unfold maxLen; omega
  have hsh : ∃ a cap, s = .slice a xs.length cap ∧ ∀ i, i < xs.length → ∃ b off, a = some ⟨b, off, none⟩ ∧ b < w.heap.size ∧ w.cell? ⟨b, off + i, none⟩ = some (.int .i64 (xs.getD i 0)) := by
    rcases hx with ⟨a, cap, rfl, rfl⟩ | ⟨b, off, len, cap, rfl, rfl, h0, hc, hm, hbl, hcell⟩
    · exact ⟨a, cap, rfl, fun i h => by simp at h⟩
    · exact ⟨_, cap, rfl, fun i h => ⟨b, off, rfl, hbl, hcell i h⟩⟩
  obtain ⟨a, cap, rfl, hcell⟩ := hsh
  have HC := Lib.hid hcell; clear hcell hx
  have hr0 := rowK_0 xs
  have HR0 := Lib.hid hr0; clear hr0
  go_enter Try.func55, Try.ntmps55
  go_wp2_with (first | (at_make; refine wpList_make_full _ rfl _ _ 24 rfl w.heap.size 3 i0 (.int .i64 0) 1 Try.underlying24 hi hz0 hz1 .i64 .i64 _ _ xs.length rfl rfl rfl rfl hb8 hml (Nat.le_refl _) ?_; intro w1 hown hgrow))
  have hB0 : Below w.heap.size w w1 := (Below.refl _ _).grown hgrow (Nat.le_refl _) (fun k h => by cases h)
  have hw1 : w.heap.size < w1.heap.size := World.ownsRow.lt hown
  have hown0 : w1.ownsRow w.heap.size 3 1 (.slice (some ⟨w.heap.size, 0, none⟩) xs.length xs.length) xs.length (rowK xs 0) := by
    rw [HR0.out]
    have : (madeCells (Value.int IntKind.i64 0).cells (xs.length * 1)).toList = List.replicate xs.length (.int .i64 0) := by rw [Nat.mul_one]; exact toList_madeCells_one _ _
    rw [← this]; exact hown
  have HOWN0 := Lib.hid hown0
  clear hown hown0 hgrow hb8 hz0 hz1 hz2 hi
  go_loopw [4] (fun v4 wr => ∃ k : Nat, k ≤ xs.length ∧ v4 = .int .i64 k ∧ Hid (wr.ownsRow w.heap.size 3 1 (.slice (some ⟨w.heap.size, 0, none⟩) xs.length xs.length) xs.length (rowK xs k)) ∧ Below w.heap.size w wr) (fun v4 _ => xs.length - (intOf v4).toNat)
  case atStart => exact ⟨0, by omega, rfl, HOWN0.out, hB0⟩
  case round =>
    obtain ⟨k, hk, rfl, hown, hbw⟩ := hrel
    by_cases hlt : k < xs.length
    · obtain ⟨b, off, ha, hbl, hc⟩ := HC.out k hlt
      subst ha
      have c1 : wr.cell? ⟨b, off + k, none⟩ = some (.int .i64 (xs.getD k 0)) := (hbw.cell (p := ⟨b, off + k, none⟩) hbl).trans hc
      have c2 := World.ownsRow.cellAt hown.out k (by omega)
      have c3 := World.ownsRow.frozenAt hown.out k
      have c4 : ∃ v, (rowK xs k)[k]? = some v := by
        have : k < (rowK xs k).length := by simp [rowK]; omega
        exact ⟨_, List.getElem?_eq_getElem this⟩
      obtain ⟨v, hv⟩ := c4
      rw [hv] at c2
      have hs := World.ownsRow.stored hown.out k (.int .i64 (xs.getD k 0))
      rw [rowK_set xs k hlt] at hs
      have eg : xs.getD k 0 = xs[k] := by simp [List.getD, hlt]
      rw [eg] at hs
      clear eg
      have HS := Lib.hid hs
      clear hs hv hc
      go_wp2
      go_roundw
      case rel => exact ⟨k + 1, by omega, by go_num, HS.out.1, hbw.grown (row := some w.heap.size) HS.out.2 hbw.size (fun j hj => by cases hj; exact Nat.le_refl _)⟩
      case measure => simp [intOf]; omega
    · have e : k = xs.length := by omega
      go_wp2
      go_ret
      subst e
      have h := hown.out
      rw [rowK_all] at h
      exact ⟨_, _, _, rfl, h, hbw⟩

end Go.Proofs.Ytopdeoicglkbkaa
