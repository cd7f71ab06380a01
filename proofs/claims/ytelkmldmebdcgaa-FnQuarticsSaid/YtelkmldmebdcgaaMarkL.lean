import Derived.Test.YtelkmldmebdcgaaMarkI
import Derived.Test.YtelkmldmebdcgaaOwnL
set_option linter.unusedSimpArgs false
set_option linter.unusedVariables false
namespace Go.Proofs.Ytelkmldmebdcgaa
open Go.RowKit
/-! ### marks in slices of slices of ints -/

/-- The slice value v reads as the rows. -/
def RdLL (w : World) (v : Value) (rows : List (List Int)) : Prop := ∃ a cap, v = .slice a rows.length cap ∧ rows.length ≤ 9223372036854775807 ∧
    ∀ i r, rows[i]? = some r → ∃ b off g, a = some ⟨b, off, none⟩ ∧ b < w.heap.size ∧ w.cell? ⟨b, off + i, none⟩ = some (rowV g r) ∧ Ints w (rowV g r) r
theorem RdLL.below {w w' : World} {v : Value} {rows : List (List Int)} (h : RdLL w v rows) (hb : Below w.heap.size w w') : RdLL w' v rows := by
  obtain ⟨a, cap, hv, hl, hc⟩ := h
  refine ⟨a, cap, hv, hl, fun i r hr => ?_⟩
  obtain ⟨b, off, g, ha, hb1, c0, hi⟩ := hc i r hr
  exact ⟨b, off, g, ha, Nat.lt_of_lt_of_le hb1 hb.size, (hb.cell (p := ⟨b, _, none⟩) hb1).trans c0, hi.below hb⟩
theorem OwnLL.row {w : World} {B g : Nat} {r : List Int} (hB : B ≤ g) (hl : r.length ≤ maxLen) (h : w.heap[g]? = some (rowO r)) : Own w B (rowV g r) r := by
  refine ⟨by simp, .inr ⟨g, r.length, (r.map (Value.int .i64)).toArray, rfl, hB, h, Nat.le_refl _, hl, by simp, ?_⟩⟩
  rw [List.take_of_length_le (by simp)]
theorem OwnLL.unrow {w : World} {B g : Nat} {r : List Int} (h : Own w B (.slice (some ⟨g, 0, none⟩) r.length r.length) r) : w.heap[g]? = some (rowO r) := by
  rcases h.2 with ⟨hv, _⟩ | ⟨g', cap, cur, hv, _, hh, hc, hm, hs, ht⟩
  · cases hv
  · simp only [Value.slice.injEq, Option.some.injEq, Addr.mk.injEq, and_true, true_and] at hv
    obtain ⟨rfl, rfl⟩ := hv
    rw [hh]
    unfold rowO
    congr 2
    rw [Nat.mul_one] at hs ht
    rw [List.take_of_length_le (by rw [Array.length_toList, hs]; exact Nat.le_refl _)] at ht
    rw [← ht]
theorem OwnLL.rd {w : World} {B : Nat} {v : Value} {rows : List (List Int)} (h : OwnLL w B v rows) (hl : ∀ r ∈ rows, r.length ≤ 1000000000000) : RdLL w v rows := by
  obtain ⟨a, cap, rfl⟩ := h.slice
  obtain ⟨h1, h2, h3⟩ := h.cell
  refine ⟨a, cap, rfl, h2, fun i r hr => ?_⟩
  obtain ⟨b, g, ha, hb, c0, hg, c1⟩ := h3 i r hr
  refine ⟨b, 0, g, ha, hb, by rw [Nat.zero_add]; exact c0, ?_⟩
  have hlr := hl r (List.mem_of_getElem? hr)
  unfold rowV
  by_cases hz : r.length = 0
  · have : r = [] := List.length_eq_zero_iff.1 hz
    subst this
    exact .inl ⟨_, _, rfl, rfl⟩
  · exact .inr ⟨g, 0, r.length, r.length, rfl, rfl, by omega, Nat.le_refl _, by unfold maxLen; omega, hg, fun j hj => by rw [Nat.zero_add]; exact c1 j hj⟩
def mkL (k0 : Int) : List (List Int) → List (List Int)
  | [] => []
  | r :: rs => mkI k0 r.length :: mkL (k0 + (r.length : Int)) rs
def totL : List (List Int) → Int
  | [] => 0
  | r :: rs => (r.length : Int) + totL rs
theorem totL_app (a b : List (List Int)) : totL (a ++ b) = totL a + totL b := by
  induction a with
  | nil => simp [totL]
  | cons r rs ih => simp [totL, ih]; omega
theorem totL_nonneg (a : List (List Int)) : 0 ≤ totL a := by
  induction a with
  | nil => simp [totL]
  | cons r rs ih => simp only [totL]; omega
theorem mkL_len (k0 : Int) (rows : List (List Int)) : (mkL k0 rows).length = rows.length := by
  induction rows generalizing k0 with
  | nil => rfl
  | cons r rs ih => simp [mkL, ih]
theorem mkL_app (k0 : Int) (a b : List (List Int)) : mkL k0 (a ++ b) = mkL k0 a ++ mkL (k0 + totL a) b := by
  induction a generalizing k0 with
  | nil => simp [mkL, totL]
  | cons r rs ih => simp only [List.cons_append, mkL, totL, ih]; rw [Int.add_assoc]
def mixL (k0 : Int) (rows : List (List Int)) (i : Nat) : List (List Int) := mkL k0 (rows.take i) ++ rows.drop i
theorem mixL_len (k0 : Int) (rows : List (List Int)) (i : Nat) (h : i ≤ rows.length) : (mixL k0 rows i).length = rows.length := by simp [mixL, mkL_len]; omega
theorem mixL_at (k0 : Int) (rows : List (List Int)) (i : Nat) (h : i < rows.length) : (mixL k0 rows i)[i]? = some rows[i] := by
  unfold mixL
  rw [List.getElem?_append_right (by rw [mkL_len, List.length_take]; omega), mkL_len, List.length_take, Nat.min_eq_left (by omega), Nat.sub_self, List.getElem?_drop, Nat.add_zero, List.getElem?_eq_getElem h]
theorem mixL_set (k0 : Int) (rows : List (List Int)) (i : Nat) (h : i < rows.length) : (mixL k0 rows i).set i (mkI (k0 + totL (rows.take i)) rows[i].length) = mixL k0 rows (i + 1) := by
  unfold mixL
  have hl : (mkL k0 (rows.take i)).length = i := by rw [mkL_len, List.length_take]; omega
  rw [List.set_append_right _ _ (by omega), hl, Nat.sub_self, List.drop_eq_getElem_cons h, List.set_cons_zero, List.take_succ_eq_append_getElem h, mkL_app]
  simp [mkL]
theorem totL_take (rows : List (List Int)) (i : Nat) (h : i < rows.length) : totL (rows.take (i + 1)) = totL (rows.take i) + (rows[i].length : Int) := by
  rw [List.take_succ_eq_append_getElem h, totL_app]; simp [totL]
theorem totL_le (rows : List (List Int)) (i : Nat) : totL (rows.take i) ≤ totL rows := by
  conv => rhs; rw [← List.take_append_drop i rows]
  rw [totL_app]; have := totL_nonneg (rows.drop i); omega
/-- with the rows' blocks told -/
def OwnLg (gs : List Nat) (w : World) (B : Nat) (v : Value) (rows : List (List Int)) : Prop := gs.length = rows.length ∧ gs.Nodup ∧ w.ownsRow B 32 1 v rows.length (List.zipWith rowV gs rows) ∧
    ∀ (i g : Nat) (r : List Int), gs[i]? = some g → rows[i]? = some r → B ≤ g ∧ w.heap[g]? = some (rowO r)
theorem zip_set {gs : List Nat} {rows : List (List Int)} {i g : Nat} {r r' : List Int} (hg : gs[i]? = some g) (hr : rows[i]? = some r) (hl : r'.length = r.length) : List.zipWith rowV gs (rows.set i r') = List.zipWith rowV gs rows := by
  apply List.ext_getElem?
  intro j
  rw [List.getElem?_zipWith, List.getElem?_zipWith, List.getElem?_set]
  by_cases e : i = j
  · subst e
    have hi : i < rows.length := by
      rcases Nat.lt_or_ge i rows.length with q | q
      · exact q
      · rw [List.getElem?_eq_none q] at hr; cases hr
    rw [hg, if_pos rfl, if_pos hi, hr]
    simp [rowV, hl]
  · rw [if_neg e]
/-- A row is written in its own block: the rows with the new one. -/
theorem OwnLg.write {w w' : World} {B : Nat} {v : Value} {rows : List (List Int)} {gs : List Nat} {i g : Nat} {r r' : List Int} (h : OwnLg gs w B v rows) (hg : gs[i]? = some g) (hr : rows[i]? = some r) (hl : r'.length = r.length)
    (ho : Only (some g) w w') (hw : w'.heap[g]? = some (rowO r')) : OwnLg gs w' B v (rows.set i r') := by
  obtain ⟨h1, hn, h2, h3⟩ := h
  have hi : i < rows.length := by
    rcases Nat.lt_or_ge i rows.length with q | q
    · exact q
    · rw [List.getElem?_eq_none q] at hr; cases hr
  obtain ⟨hBg, hhg⟩ := h3 i g r hg hr
  refine ⟨by simpa using h1, hn, ?_, fun j k q hj hq => ?_⟩
  · rw [zip_set hg hr hl, List.length_set]
    refine ownsRow_only h2 ho ?_
    rcases h2.2 with ⟨hv, _⟩ | ⟨b, cap, cur, hv, _, hh, _⟩
    · left; rw [hv]; rfl
    · right
      rw [hv]
      intro e
      simp [Value.ownBlock] at e
      subst e
      rw [hhg] at hh
      exact rowO_ne (Option.some.inj hh)
  · rw [List.getElem?_set] at hq
    by_cases e : i = j
    · subst e
      rw [if_pos rfl, if_pos hi] at hq
      rw [hg] at hj
      obtain rfl := Option.some.inj hj
      obtain rfl := Option.some.inj hq
      exact ⟨hBg, hw⟩
    · rw [if_neg e] at hq
      obtain ⟨hBk, hhk⟩ := h3 j k q hj hq
      refine ⟨hBk, (ho.block k (heap_lt hhk) ?_).trans hhk⟩
      intro hkg
      obtain rfl := Option.some.inj hkg
      have hij : i < gs.length := by omega
      have hjj : j < gs.length := by
        rcases Nat.lt_or_ge j gs.length with q | q
        · exact q
        · rw [List.getElem?_eq_none q] at hj; cases hj
      rw [List.getElem?_eq_getElem hij] at hg
      rw [List.getElem?_eq_getElem hjj] at hj
      have : gs[i] = gs[j] := by rw [Option.some.inj hg, Option.some.inj hj]
      exact e ((List.getElem_inj hn).1 this)
theorem mark_belowL {W we wd wf : World} {v : Value} {rows : List (List Int)} (own : OwnLL wd W.heap.size v rows) (hbd : Below W.heap.size W wd) (hbe : Below wd.heap.size wd we) (hon : W.heap.size ≤ we.heap.size → Below W.heap.size we wf) : Below W.heap.size W wf :=
  (hbd.trans (hbe.mono hbd.size)).trans (hon (Nat.le_trans hbd.size hbe.size))
theorem mkL_b {n : Nat} : ∀ (rows : List (List Int)) (k0 : Int), (∀ r ∈ rows, r.length ≤ n) → ∀ r ∈ mkL k0 rows, r.length ≤ n := by
  intro rows
  induction rows with
  | nil => intro k0 _ r hr; simp [mkL] at hr
  | cons q qs ih =>
    intro k0 h r hr
    simp only [mkL, List.mem_cons] at hr
    rcases hr with rfl | hr
    · rw [mkI_len]; exact h q List.mem_cons_self
    · exact ih _ (fun p hp => h p (List.mem_cons_of_mem _ hp)) r hr

end Go.Proofs.Ytelkmldmebdcgaa
