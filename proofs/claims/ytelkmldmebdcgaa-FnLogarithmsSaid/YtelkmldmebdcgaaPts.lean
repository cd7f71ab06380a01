import Derived.Test.YtelkmldmebdcgaaOwnX
import Derived.Laws.AppendOwnNone
set_option linter.unusedSimpArgs false
set_option linter.unusedVariables false
namespace Go.Proofs.Ytelkmldmebdcgaa
open Go.RowKit
/-! ### slices of points that the call makes -/

abbrev P3 := Int × Int × Int
def flatP : List P3 → List Value
  | [] => []
  | (x, y, e) :: ps => .int .i64 x :: .int .i64 y :: .int .i64 e :: flatP ps
theorem flatP_app (ps qs : List P3) : flatP (ps ++ qs) = flatP ps ++ flatP qs := by
  induction ps with
  | nil => rfl
  | cons p ps ih => obtain ⟨x, y, e⟩ := p; simp [flatP, ih]
theorem flatP_len (ps : List P3) : (flatP ps).length = ps.length * 3 := by
  induction ps with
  | nil => rfl
  | cons p ps ih => obtain ⟨x, y, e⟩ := p; simp [flatP, ih]; omega
theorem flatP_at (ps : List P3) (k : Nat) (h : k < ps.length) : (flatP ps)[k * 3]? = some (.int .i64 ps[k].1) ∧ (flatP ps)[k * 3 + 1]? = some (.int .i64 ps[k].2.1) ∧ (flatP ps)[k * 3 + 2]? = some (.int .i64 ps[k].2.2) := by
  induction ps generalizing k with
  | nil => simp at h
  | cons p ps ih =>
    obtain ⟨x, y, e⟩ := p
    cases k with
    | zero => simp [flatP]
    | succ k =>
      have := ih k (by simpa using h)
      have e1 : (k + 1) * 3 = k * 3 + 1 + 1 + 1 := by omega
      rw [e1]
      simpa [flatP] using this
theorem flatP_one (ps : List P3) : ∀ u ∈ flatP ps, u.oneCell' = true := by
  induction ps with
  | nil => simp [flatP]
  | cons p ps ih =>
    obtain ⟨x, y, e⟩ := p
    intro u hu
    simp only [flatP, List.mem_cons] at hu
    rcases hu with rfl | rfl | rfl | hu
    · rfl
    · rfl
    · rfl
    · exact ih u hu
/-- The slice value v, of the call's own from block B on, holds the points. -/
def OwnP (w : World) (B : Nat) (v : Value) (ps : List P3) : Prop := w.ownsRow B 46 3 v ps.length (flatP ps)
theorem OwnP.nil (w : World) (B : Nat) : OwnP w B (.slice none 0 0) [] := World.ownsRow_nil _ _ _ _
theorem OwnP.slice {w : World} {B : Nat} {s : Value} {ps : List P3} (h : OwnP w B s ps) : ∃ a cap, s = .slice a ps.length cap := ownsRow_slice h
theorem OwnP.below {w w' : World} {B : Nat} {s : Value} {ps : List P3} (h : OwnP w B s ps) (hb : Below w.heap.size w w') : OwnP w' B s ps := ownsRow_below h hb
theorem OwnP.mono {w : World} {B B' : Nat} {s : Value} {ps : List P3} (h : OwnP w B s ps) (hB : B' ≤ B) : OwnP w B' s ps := ownsRow_mono h hB
theorem OwnP.alloc {w : World} {B : Nat} {s : Value} {ps : List P3} (h : OwnP w B s ps) (o : Obj) : OwnP (w.alloc o) B s ps := _root_.Go.World.ownsRow.alloc h o
theorem infoP : (Try.prog.info? 46).map (fun i => (i.zero, i.size, i.bytes)) = some (some (.agg #[.int .i64 0, .int .i64 0, .int .i64 0]), 3, 24) := by kernel_rfl
/-- append(out, p). -/
theorem wpl_appP {ops : Array Oper} {rest : List Oper} {o : Oper} {a : Act} {Q : Exit → Act → World → Prop} {W w : World} (hgd : o.guard = none) (s x : Operand)
    (ho : o.op = .call { callee := .builtin .append, args := #[s, x], argTypes := #[42, 42] }) (B : Nat) (v : Value) (ps : List P3) (hs : a.eval s = v) (hown : OwnP w B v ps)
    (b c : Nat) (p : P3) (hx : a.eval x = .slice (some ⟨b, 0, none⟩) 1 c) (h0 : w.cell? ⟨b, 0, none⟩ = some (.int .i64 p.1)) (h1 : w.cell? ⟨b, 1, none⟩ = some (.int .i64 p.2.1)) (h2 : w.cell? ⟨b, 2, none⟩ = some (.int .i64 p.2.2))
    (hlen : ps.length ≤ 1000000000000) (hb : Below B W w) (hB : B ≤ w.heap.size)
    (h : ∀ a' cap' w', OwnP w' B (.slice a' (ps.length + 1) cap') (ps ++ [p]) → Below B W w' → B ≤ w'.heap.size → wpList Try.prog ops Q rest (a.put o.dst (.slice a' (ps.length + 1) cap')) w') : wpList Try.prog ops Q (o :: rest) a w := by
  obtain ⟨i0, hi, hz0, hz1, hz2⟩ := info_parts infoP
  obtain ⟨px, py, pe⟩ := p
  refine wpList_append_own w hgd s x 42 ho B 46 i0 _ 3 24 Try.underlying42 hi hz0 hz1 hz2 rfl (by decide) v ps.length (flatP ps) hs hown ⟨b, 0, none⟩ 1 c [.int .i64 px, .int .i64 py, .int .i64 pe] hx rfl ?_ ?_ (by unfold maxLen; omega) (by omega) hB ?_
  · intro j u hj
    match j, hj with
    | 0, hj => simp at hj; subst hj; exact h0
    | 1, hj => simp at hj; subst hj; exact h1
    | 2, hj => simp at hj; subst hj; exact h2
  · intro u hu; simp at hu; rcases hu with rfl | rfl | rfl <;> rfl
  · intro v' w' q1 q2 q3
    have ho' : OwnP w' B v' (ps ++ [(px, py, pe)]) := by
      unfold OwnP
      rw [flatP_app, List.length_append]
      exact q1
    obtain ⟨a', cap', rfl⟩ := ho'.slice
    simp only [List.length_append, List.length_cons, List.length_nil] at ho' ⊢
    refine h a' cap' w' ho' (hb.grown q2 hB ?_) (Nat.le_trans hB q2.size)
    intro k hk
    exact (_root_.Go.World.ownsRow.lt hown k hk).1
/-- append(out, ps...). -/
theorem wpl_appPs {ops : Array Oper} {rest : List Oper} {o : Oper} {a : Act} {Q : Exit → Act → World → Prop} {W w : World} (hgd : o.guard = none) (s x : Operand)
    (ho : o.op = .call { callee := .builtin .append, args := #[s, x], argTypes := #[42, 42] }) (B B2 : Nat) (v v2 : Value) (ps qs : List P3) (hs : a.eval s = v) (hown : OwnP w B v ps)
    (hx : a.eval x = v2) (hown2 : OwnP w B2 v2 qs)
    (hlen : ps.length + qs.length ≤ 1000000000000) (hb : Below B W w) (hB : B ≤ w.heap.size)
    (h : ∀ a' cap' w', OwnP w' B (.slice a' (ps.length + qs.length) cap') (ps ++ qs) → Below B W w' → B ≤ w'.heap.size → wpList Try.prog ops Q rest (a.put o.dst (.slice a' (ps.length + qs.length) cap')) w') : wpList Try.prog ops Q (o :: rest) a w := by
  obtain ⟨i0, hi, hz0, hz1, hz2⟩ := info_parts infoP
  rcases hown2.2 with ⟨hv2, hn2⟩ | ⟨g2, cap2, cur2, hv2, hg2, hh2, hc2, hm2, hs2, ht2⟩
  · have e : qs = [] := List.length_eq_zero_iff.1 hn2
    subst e hv2
    obtain ⟨a0, c0, rfl⟩ := hown.slice
    refine wpList_append_own_none hgd s x 42 ho B 46 i0 3 Try.underlying42 hi _ ps.length (flatP ps) hs hown hx ?_
    have := h a0 c0 w
    simp only [List.length_nil, Nat.add_zero, List.append_nil] at this
    exact this hown hb hB
  · subst hv2
    have hcells := _root_.Go.World.ownsRow.cells hown2 (g := g2) rfl
    refine wpList_append_own w hgd s x 42 ho B 46 i0 _ 3 24 Try.underlying42 hi hz0 hz1 hz2 rfl (by decide) v ps.length (flatP ps) hs hown ⟨g2, 0, none⟩ qs.length cap2 (flatP qs) hx (flatP_len qs) hcells (flatP_one qs) (by unfold maxLen; omega) (by omega) hB ?_
    intro v' w' q1 q2 q3
    have ho' : OwnP w' B v' (ps ++ qs) := by
      unfold OwnP
      rw [flatP_app, List.length_append]
      exact q1
    obtain ⟨a', cap', rfl⟩ := ho'.slice
    simp only [List.length_append] at ho' ⊢
    refine h a' cap' w' ho' (hb.grown q2 hB ?_) (Nat.le_trans hB q2.size)
    intro k hk
    exact (_root_.Go.World.ownsRow.lt hown k hk).1
/-- The slice value v reads as the points ps. -/
def PtsR (w : World) (v : Value) (ps : List P3) : Prop := ∃ a cap, v = .slice a ps.length cap ∧ ps.length ≤ 9223372036854775807 ∧
    ∀ i p, ps[i]? = some p → ∃ b off, a = some ⟨b, off, none⟩ ∧ b < w.heap.size ∧ w.cell? ⟨b, off + i * 3, none⟩ = some (.int .i64 p.1) ∧ w.cell? ⟨b, off + i * 3 + 1, none⟩ = some (.int .i64 p.2.1) ∧ w.cell? ⟨b, off + i * 3 + 2, none⟩ = some (.int .i64 p.2.2)
theorem PtsR.below {w w' : World} {v : Value} {ps : List P3} (h : PtsR w v ps) (hb : Below w.heap.size w w') : PtsR w' v ps := by
  obtain ⟨a, cap, hv, hl, hc⟩ := h
  refine ⟨a, cap, hv, hl, fun i p hp => ?_⟩
  obtain ⟨b, off, ha, hb1, c0, c1, c2⟩ := hc i p hp
  exact ⟨b, off, ha, Nat.lt_of_lt_of_le hb1 hb.size, (hb.cell (p := ⟨b, _, none⟩) hb1).trans c0, (hb.cell (p := ⟨b, _, none⟩) hb1).trans c1, (hb.cell (p := ⟨b, _, none⟩) hb1).trans c2⟩
theorem OwnP.pts {w : World} {B : Nat} {v : Value} {ps : List P3} (h : OwnP w B v ps) : PtsR w v ps := by
  have h' := h
  rcases h.2 with ⟨hv, hn⟩ | ⟨g, cap, cur, hv, hg, hh, hc, hm, hs, ht⟩
  · have e : ps = [] := List.length_eq_zero_iff.1 hn
    subst e
    exact ⟨none, 0, hv, by simp, by simp⟩
  · refine ⟨_, cap, hv, by unfold maxLen at hm; omega, fun i p hp => ?_⟩
    subst hv
    have hi : i < ps.length := by
      rcases Nat.lt_or_ge i ps.length with q | q
      · exact q
      · rw [List.getElem?_eq_none q] at hp; cases hp
    have hlt : g < w.heap.size := by
      rcases Nat.lt_or_ge g w.heap.size with q | q
      · exact q
      · rw [Array.getElem?_eq_none q] at hh; cases hh
    obtain ⟨f0, f1, f2⟩ := flatP_at ps i hi
    have e : ps[i] = p := by rw [List.getElem?_eq_getElem hi] at hp; exact Option.some.inj hp
    rw [e] at f0 f1 f2
    refine ⟨g, 0, rfl, hlt, ?_, ?_, ?_⟩
    · rw [Nat.zero_add, _root_.Go.World.ownsRow.cellAt h' _ (by omega)]; exact f0
    · rw [Nat.zero_add, _root_.Go.World.ownsRow.cellAt h' _ (by omega)]; exact f1
    · rw [Nat.zero_add, _root_.Go.World.ownsRow.cellAt h' _ (by omega)]; exact f2
def GivesP (ps : List P3) (w : World) (e : Ending) (w' : World) : Prop := ∃ a len cap, e = .returned (.slice a len cap) ∧ OwnP w' w.heap.size (.slice a len cap) ps ∧ Below w.heap.size w w'

def mkP (k0 : Int) (n : Nat) : List P3 := (List.range n).map fun (i : Nat) => (k0 + 3 * (i : Int), k0 + 3 * (i : Int) + 1, k0 + 3 * (i : Int) + 1 + 1)
theorem mkP_len (k0 : Int) (n : Nat) : (mkP k0 n).length = n := by simp [mkP]
theorem mkP_at (k0 : Int) (n i : Nat) (h : i < n) : (mkP k0 n)[i]? = some (k0 + 3 * (i : Int), k0 + 3 * (i : Int) + 1, k0 + 3 * (i : Int) + 1 + 1) := by simp [mkP, h]
def mixP (k0 : Int) (ps : List P3) (i : Nat) : List P3 := mkP k0 i ++ ps.drop i
theorem mixP_len (k0 : Int) (ps : List P3) (i : Nat) (h : i ≤ ps.length) : (mixP k0 ps i).length = ps.length := by simp [mixP, mkP_len]; omega
theorem mixP_0 (k0 : Int) (ps : List P3) : mixP k0 ps 0 = ps := by simp [mixP, mkP]
theorem mixP_end (k0 : Int) (ps : List P3) : mixP k0 ps ps.length = mkP k0 ps.length := by simp [mixP]
theorem flatP_set (ps : List P3) (k : Nat) (x y z : Int) (h : k < ps.length) : (((flatP ps).set (k * 3) (.int .i64 x)).set (k * 3 + 1) (.int .i64 y)).set (k * 3 + 2) (.int .i64 z) = flatP (ps.set k (x, y, z)) := by
  induction ps generalizing k with
  | nil => simp at h
  | cons p ps ih =>
    obtain ⟨a, b, c⟩ := p
    cases k with
    | zero => simp [flatP]
    | succ k =>
      have := ih k (by simpa using h)
      have e1 : (k + 1) * 3 = k * 3 + 1 + 1 + 1 := by omega
      rw [e1]
      simpa [flatP] using this
theorem mixP_set (k0 : Int) (ps : List P3) (i : Nat) (h : i < ps.length) : (mixP k0 ps i).set i (k0 + 3 * (i : Int), k0 + 3 * (i : Int) + 1, k0 + 3 * (i : Int) + 1 + 1) = mixP k0 ps (i + 1) := by
  unfold mixP
  rw [List.set_append_right _ _ (by rw [mkP_len]; exact Nat.le_refl _), mkP_len, Nat.sub_self, List.drop_eq_getElem_cons h, List.set_cons_zero]
  unfold mkP
  rw [List.range_succ, List.map_append]
  simp

end Go.Proofs.Ytelkmldmebdcgaa
