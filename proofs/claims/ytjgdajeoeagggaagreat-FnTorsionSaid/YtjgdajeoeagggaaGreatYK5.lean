import Derived.Test.YtjgdajeoeagggaaGreatYK1
import Derived.Laws.AppendOwnNone
import Derived.Test.YtjgdajeoeagggaaGreatYK4
import Derived.IntWalk
import Derived.Test.YtjgdajeoeagggaaGreatYK2
set_option linter.unusedSimpArgs false
set_option linter.unusedVariables false
namespace Go.Proofs.YtjgdajeoeagggaaGreat
open Go.RowKit
/-! ### slices of points that the call makes -/
abbrev P3 := Int × Int × Int
def flatP : List P3 → List Value
  | [] => []
  | (x, y, e) :: ps => .int .i64 x :: .int .i64 y :: .int .i64 e :: flatP ps
theorem flatP_app (ps qs : List P3) : flatP (ps ++ qs) = flatP ps ++ flatP qs := by
  induction ps with
  | nil => rfl
  | cons p ps ih => obtain ⟨x, y, e⟩ := p; simp [flatP, ih]
theorem flatP_len (ps : List P3) : (flatP ps).length = ps.length * 3 := by
  induction ps with
  | nil => rfl
  | cons p ps ih => obtain ⟨x, y, e⟩ := p; simp [flatP, ih]; omega
theorem flatP_at (ps : List P3) (k : Nat) (h : k < ps.length) : (flatP ps)[k * 3]? = some (.int .i64 ps[k].1) ∧ (flatP ps)[k * 3 + 1]? = some (.int .i64 ps[k].2.1) ∧ (flatP ps)[k * 3 + 2]? = some (.int .i64 ps[k].2.2) := by
  induction ps generalizing k with
  | nil => simp at h
  | cons p ps ih =>
    obtain ⟨x, y, e⟩ := p
    cases k with
    | zero => simp [flatP]
    | succ k =>
      have := ih k (by simpa using h)
      have e1 : (k + 1) * 3 = k * 3 + 1 + 1 + 1 := by omega
      rw [e1]
      simpa [flatP] using this
theorem flatP_one (ps : List P3) : ∀ u ∈ flatP ps, u.oneCell' = true := by
  induction ps with
  | nil => simp [flatP]
  | cons p ps ih =>
    obtain ⟨x, y, e⟩ := p
    intro u hu
    simp only [flatP, List.mem_cons] at hu
    rcases hu with rfl | rfl | rfl | hu
    · rfl
    · rfl
    · rfl
    · exact ih u hu
/-- The slice value v, of the call's own from block B on, holds the points. -/
def OwnP (w : World) (B : Nat) (v : Value) (ps : List P3) : Prop := w.ownsRow B 34 3 v ps.length (flatP ps)
theorem OwnP.nil (w : World) (B : Nat) : OwnP w B (.slice none 0 0) [] := World.ownsRow_nil _ _ _ _
theorem OwnP.slice {w : World} {B : Nat} {s : Value} {ps : List P3} (h : OwnP w B s ps) : ∃ a cap, s = .slice a ps.length cap := ownsRow_slice h
theorem OwnP.below {w w' : World} {B : Nat} {s : Value} {ps : List P3} (h : OwnP w B s ps) (hb : Below w.heap.size w w') : OwnP w' B s ps := ownsRow_below h hb
theorem OwnP.mono {w : World} {B B' : Nat} {s : Value} {ps : List P3} (h : OwnP w B s ps) (hB : B' ≤ B) : OwnP w B' s ps := ownsRow_mono h hB
theorem OwnP.alloc {w : World} {B : Nat} {s : Value} {ps : List P3} (h : OwnP w B s ps) (o : Obj) : OwnP (w.alloc o) B s ps := _root_.Go.World.ownsRow.alloc h o
theorem infoP : (Tryz.prog.info? 34).map (fun i => (i.zero, i.size, i.bytes)) = some (some (.agg #[.int .i64 0, .int .i64 0, .int .i64 0]), 3, 24) := by kernel_rfl
/-- append(out, p). -/
theorem wpl_appP {ops : Array Oper} {rest : List Oper} {o : Oper} {a : Act} {Q : Exit → Act → World → Prop} {W w : World} (hgd : o.guard = none) (s x : Operand)
    (ho : o.op = .call { callee := .builtin .append, args := #[s, x], argTypes := #[27, 27] }) (B : Nat) (v : Value) (ps : List P3) (hs : a.eval s = v) (hown : OwnP w B v ps)
    (b c : Nat) (p : P3) (hx : a.eval x = .slice (some ⟨b, 0, none⟩) 1 c) (h0 : w.cell? ⟨b, 0, none⟩ = some (.int .i64 p.1)) (h1 : w.cell? ⟨b, 1, none⟩ = some (.int .i64 p.2.1)) (h2 : w.cell? ⟨b, 2, none⟩ = some (.int .i64 p.2.2))
    (hlen : ps.length ≤ 1000000000000) (hb : Below B W w) (hB : B ≤ w.heap.size)
    (h : ∀ a' cap' w', OwnP w' B (.slice a' (ps.length + 1) cap') (ps ++ [p]) → Below B W w' → B ≤ w'.heap.size → wpList Tryz.prog ops Q rest (a.put o.dst (.slice a' (ps.length + 1) cap')) w') : wpList Tryz.prog ops Q (o :: rest) a w := by
  obtain ⟨i0, hi, hz0, hz1, hz2⟩ := info_parts infoP
  obtain ⟨px, py, pe⟩ := p
  refine wpList_append_own w hgd s x 27 ho B 34 i0 _ 3 24 Tryz.underlying27 hi hz0 hz1 hz2 rfl (by decide) v ps.length (flatP ps) hs hown ⟨b, 0, none⟩ 1 c [.int .i64 px, .int .i64 py, .int .i64 pe] hx rfl ?_ ?_ (by unfold maxLen; omega) (by omega) hB ?_
  · intro j u hj
    match j, hj with
    | 0, hj => simp at hj; subst hj; exact h0
    | 1, hj => simp at hj; subst hj; exact h1
    | 2, hj => simp at hj; subst hj; exact h2
  · intro u hu; simp at hu; rcases hu with rfl | rfl | rfl <;> rfl
  · intro v' w' q1 q2 q3
    have ho' : OwnP w' B v' (ps ++ [(px, py, pe)]) := by
      unfold OwnP
      rw [flatP_app, List.length_append]
      exact q1
    obtain ⟨a', cap', rfl⟩ := ho'.slice
    simp only [List.length_append, List.length_cons, List.length_nil] at ho' ⊢
    refine h a' cap' w' ho' (hb.grown q2 hB ?_) (Nat.le_trans hB q2.size)
    intro k hk
    exact (_root_.Go.World.ownsRow.lt hown k hk).1
/-- append(out, ps...). -/
theorem wpl_appPs {ops : Array Oper} {rest : List Oper} {o : Oper} {a : Act} {Q : Exit → Act → World → Prop} {W w : World} (hgd : o.guard = none) (s x : Operand)
    (ho : o.op = .call { callee := .builtin .append, args := #[s, x], argTypes := #[27, 27] }) (B B2 : Nat) (v v2 : Value) (ps qs : List P3) (hs : a.eval s = v) (hown : OwnP w B v ps)
    (hx : a.eval x = v2) (hown2 : OwnP w B2 v2 qs)
    (hlen : ps.length + qs.length ≤ 1000000000000) (hb : Below B W w) (hB : B ≤ w.heap.size)
    (h : ∀ a' cap' w', OwnP w' B (.slice a' (ps.length + qs.length) cap') (ps ++ qs) → Below B W w' → B ≤ w'.heap.size → wpList Tryz.prog ops Q rest (a.put o.dst (.slice a' (ps.length + qs.length) cap')) w') : wpList Tryz.prog ops Q (o :: rest) a w := by
  obtain ⟨i0, hi, hz0, hz1, hz2⟩ := info_parts infoP
  rcases hown2.2 with ⟨hv2, hn2⟩ | ⟨g2, cap2, cur2, hv2, hg2, hh2, hc2, hm2, hs2, ht2⟩
  · have e : qs = [] := List.length_eq_zero_iff.1 hn2
    subst e hv2
    obtain ⟨a0, c0, rfl⟩ := hown.slice
    refine wpList_append_own_none hgd s x 27 ho B 34 i0 3 Tryz.underlying27 hi _ ps.length (flatP ps) hs hown hx ?_
    have := h a0 c0 w
    simp only [List.length_nil, Nat.add_zero, List.append_nil] at this
    exact this hown hb hB
  · subst hv2
    have hcells := _root_.Go.World.ownsRow.cells hown2 (g := g2) rfl
    refine wpList_append_own w hgd s x 27 ho B 34 i0 _ 3 24 Tryz.underlying27 hi hz0 hz1 hz2 rfl (by decide) v ps.length (flatP ps) hs hown ⟨g2, 0, none⟩ qs.length cap2 (flatP qs) hx (flatP_len qs) hcells (flatP_one qs) (by unfold maxLen; omega) (by omega) hB ?_
    intro v' w' q1 q2 q3
    have ho' : OwnP w' B v' (ps ++ qs) := by
      unfold OwnP
      rw [flatP_app, List.length_append]
      exact q1
    obtain ⟨a', cap', rfl⟩ := ho'.slice
    simp only [List.length_append] at ho' ⊢
    refine h a' cap' w' ho' (hb.grown q2 hB ?_) (Nat.le_trans hB q2.size)
    intro k hk
    exact (_root_.Go.World.ownsRow.lt hown k hk).1
/-- The slice value v reads as the points ps. -/
def PtsR (w : World) (v : Value) (ps : List P3) : Prop := ∃ a cap, v = .slice a ps.length cap ∧ ps.length ≤ 9223372036854775807 ∧
    ∀ i p, ps[i]? = some p → ∃ b off, a = some ⟨b, off, none⟩ ∧ b < w.heap.size ∧ w.cell? ⟨b, off + i * 3, none⟩ = some (.int .i64 p.1) ∧ w.cell? ⟨b, off + i * 3 + 1, none⟩ = some (.int .i64 p.2.1) ∧ w.cell? ⟨b, off + i * 3 + 2, none⟩ = some (.int .i64 p.2.2)
theorem PtsR.below {w w' : World} {v : Value} {ps : List P3} (h : PtsR w v ps) (hb : Below w.heap.size w w') : PtsR w' v ps := by
  obtain ⟨a, cap, hv, hl, hc⟩ := h
  refine ⟨a, cap, hv, hl, fun i p hp => ?_⟩
  obtain ⟨b, off, ha, hb1, c0, c1, c2⟩ := hc i p hp
  exact ⟨b, off, ha, Nat.lt_of_lt_of_le hb1 hb.size, (hb.cell (p := ⟨b, _, none⟩) hb1).trans c0, (hb.cell (p := ⟨b, _, none⟩) hb1).trans c1, (hb.cell (p := ⟨b, _, none⟩) hb1).trans c2⟩
theorem OwnP.pts {w : World} {B : Nat} {v : Value} {ps : List P3} (h : OwnP w B v ps) : PtsR w v ps := by
  have h' := h
  rcases h.2 with ⟨hv, hn⟩ | ⟨g, cap, cur, hv, hg, hh, hc, hm, hs, ht⟩
  · have e : ps = [] := List.length_eq_zero_iff.1 hn
    subst e
    exact ⟨none, 0, hv, by simp, by simp⟩
  · refine ⟨_, cap, hv, by unfold maxLen at hm; omega, fun i p hp => ?_⟩
    subst hv
    have hi : i < ps.length := by
      rcases Nat.lt_or_ge i ps.length with q | q
      · exact q
      · rw [List.getElem?_eq_none q] at hp; cases hp
    have hlt : g < w.heap.size := by
      rcases Nat.lt_or_ge g w.heap.size with q | q
      · exact q
      · rw [Array.getElem?_eq_none q] at hh; cases hh
    obtain ⟨f0, f1, f2⟩ := flatP_at ps i hi
    have e : ps[i] = p := by rw [List.getElem?_eq_getElem hi] at hp; exact Option.some.inj hp
    rw [e] at f0 f1 f2
    refine ⟨g, 0, rfl, hlt, ?_, ?_, ?_⟩
    · rw [Nat.zero_add, _root_.Go.World.ownsRow.cellAt h' _ (by omega)]; exact f0
    · rw [Nat.zero_add, _root_.Go.World.ownsRow.cellAt h' _ (by omega)]; exact f1
    · rw [Nat.zero_add, _root_.Go.World.ownsRow.cellAt h' _ (by omega)]; exact f2
def GivesP (ps : List P3) (w : World) (e : Ending) (w' : World) : Prop := ∃ a len cap, e = .returned (.slice a len cap) ∧ OwnP w' w.heap.size (.slice a len cap) ps ∧ Below w.heap.size w w'
theorem flatP_set (ps : List P3) (k : Nat) (x y z : Int) (h : k < ps.length) : (((flatP ps).set (k * 3) (.int .i64 x)).set (k * 3 + 1) (.int .i64 y)).set (k * 3 + 2) (.int .i64 z) = flatP (ps.set k (x, y, z)) := by
  induction ps generalizing k with
  | nil => simp at h
  | cons p ps ih =>
    obtain ⟨a, b, c⟩ := p
    cases k with
    | zero => simp [flatP]
    | succ k =>
      have := ih k (by simpa using h)
      have e1 : (k + 1) * 3 = k * 3 + 1 + 1 + 1 := by omega
      rw [e1]
      simpa [flatP] using this
/-! ### marks in slices of ints -/
/-! ### slices of the call's own within bounds of blocks -/
/-- The slice s holds xs, in a block of lo .. hi - 1 (or in none). -/
def Seg (w : World) (lo hi : Nat) (s : Value) (xs : List Int) : Prop := Own w lo s xs ∧ ∀ b, s.ownBlock = some b → b < hi
theorem Seg.own {w : World} {lo hi : Nat} {s : Value} {xs : List Int} (h : Seg w lo hi s xs) : Own w lo s xs := h.1
theorem Seg.ints {w : World} {lo hi : Nat} {s : Value} {xs : List Int} (h : Seg w lo hi s xs) : Ints w s xs := h.1.ints
theorem Own.lt {w : World} {lo b : Nat} {s : Value} {xs : List Int} (h : Own w lo s xs) (hb : s.ownBlock = some b) : b < w.heap.size ∧ lo ≤ b := by
  rcases h.2 with ⟨hv, _⟩ | ⟨g, cap, cur, hv, hg, hh, _⟩
  · rw [hv] at hb; cases hb
  · rw [hv] at hb
    have e : g = b := by simpa [Value.ownBlock] using hb
    subst e
    refine ⟨?_, hg⟩
    rcases Nat.lt_or_ge g w.heap.size with q | q
    · exact q
    · rw [Array.getElem?_eq_none q] at hh; cases hh
theorem Seg.of {w : World} {lo : Nat} {s : Value} {xs : List Int} (h : Own w lo s xs) : Seg w lo w.heap.size s xs := ⟨h, fun b hb => (h.lt hb).1⟩
theorem Seg.drew {w : World} {lo hi : Nat} {s : Value} {xs : List Int} (h : Seg w lo hi s xs) : Seg w.drew lo hi s xs := h
theorem Seg.alloc {w : World} {lo hi : Nat} {s : Value} {xs : List Int} (h : Seg w lo hi s xs) (o : Obj) : Seg (w.alloc o) lo hi s xs := ⟨h.1.alloc o, h.2⟩
theorem Seg.mono {w : World} {lo hi lo' hi' : Nat} {s : Value} {xs : List Int} (h : Seg w lo hi s xs) (h1 : lo' ≤ lo) (h2 : hi ≤ hi') : Seg w lo' hi' s xs := ⟨h.1.mono h1, fun b hb => Nat.lt_of_lt_of_le (h.2 b hb) h2⟩
theorem only_setCell (w : World) (p : Addr) (u : Value) : Only (some p.block) w (w.setCell p u) :=
  ⟨rfl, rfl, rfl, by simp [World.setCell], fun k hk hne => Below.heap_setCell _ _ _ _ (fun e => hne (by rw [e]))⟩
theorem Seg.set {w : World} {lo hi : Nat} {s : Value} {xs : List Int} {p : Addr} (h : Seg w lo hi s xs) (hp : p.block < lo ∨ hi ≤ p.block) (u : Value) : Seg (w.setCell p u) lo hi s xs := by
  refine ⟨?_, h.2⟩
  rcases hp with hp | hp
  · exact h.1.set hp u
  · refine ownsRow_only h.1 (only_setCell w p u) ?_
    cases hb : s.ownBlock with
    | none => exact .inl rfl
    | some b => refine .inr (fun e => ?_)
                have := h.2 b hb
                have := Option.some.inj e
                omega
theorem Seg.below {w w' : World} {lo hi N : Nat} {s : Value} {xs : List Int} (h : Seg w lo hi s xs) (hb : Below N w w') (hN : hi ≤ N) : Seg w' lo hi s xs := by
  obtain ⟨⟨h1, h2⟩, h3⟩ := h
  refine ⟨⟨h1, ?_⟩, h3⟩
  rcases h2 with h2 | ⟨g, cap, cur, hv, hg, hh, r⟩
  · exact .inl h2
  · have q : g < hi := h3 g (by rw [hv]; rfl)
    exact .inr ⟨g, cap, cur, hv, hg, (hb.block g (by omega)).trans hh, r⟩
/-! ### fractions -/
def mkD (num den : Int) : Int := if den < 0 then -((Int.gcd num den : Nat) : Int) else ((Int.gcd num den : Nat) : Int)
theorem gcd_ne (num den : Int) (h : den ≠ 0) : 1 ≤ Int.gcd num den := by
  have : Int.gcd num den ≠ 0 := by rw [Ne, Int.gcd_eq_zero_iff]; omega
  omega
theorem gcd_le (num den : Int) (h : den ≠ 0) : Int.gcd num den ≤ den.natAbs := Nat.le_of_dvd (by omega) (Nat.gcd_dvd_right _ _)
theorem tdiv_bd (a b : Int) : (a.tdiv b).natAbs ≤ a.natAbs := by rw [Int.natAbs_tdiv]; exact Nat.div_le_self _ _
/-! ### ratios that a call makes -/
/-- The two slices of the call's own, in blocks of their own. -/
def Two (w : World) (B : Nat) (a1 : Option Addr) (l1 c1 : Nat) (xs : List Int) (s2 : Value) (ys : List Int) : Prop := ∃ C, Own w B (.slice a1 l1 c1) xs ∧ Own w C s2 ys ∧ B ≤ C ∧ (∀ ad, a1 = some ad → ad.block < C)
theorem Two.set {w : World} {B : Nat} {a1 : Option Addr} {l1 c1 : Nat} {xs : List Int} {s2 : Value} {ys : List Int} {p : Addr} (h : Two w B a1 l1 c1 xs s2 ys) (hp : p.block < B) (u : Value) : Two (w.setCell p u) B a1 l1 c1 xs s2 ys := by
  obtain ⟨C, h1, h2, h3, h4⟩ := h
  exact ⟨C, h1.set hp u, h2.set (Nat.lt_of_lt_of_le hp h3) u, h3, h4⟩
theorem Two.mono {w : World} {B B' : Nat} {a1 : Option Addr} {l1 c1 : Nat} {xs : List Int} {s2 : Value} {ys : List Int} (h : Two w B a1 l1 c1 xs s2 ys) (hB : B' ≤ B) : Two w B' a1 l1 c1 xs s2 ys := by
  obtain ⟨C, h1, h2, h3, h4⟩ := h
  exact ⟨C, h1.mono hB, h2, Nat.le_trans hB h3, h4⟩
theorem Two.below {w w' : World} {B : Nat} {a1 : Option Addr} {l1 c1 : Nat} {xs : List Int} {s2 : Value} {ys : List Int} (h : Two w B a1 l1 c1 xs s2 ys) (hb : Below w.heap.size w w') : Two w' B a1 l1 c1 xs s2 ys := by
  obtain ⟨C, h1, h2, h3, h4⟩ := h
  exact ⟨C, h1.below hb, h2.below hb, h3, h4⟩
theorem Two.of {w w' : World} {B : Nat} {a1 : Option Addr} {l1 c1 : Nat} {xs : List Int} {s2 : Value} {ys : List Int} (h1 : Own w B (.slice a1 l1 c1) xs) (hB : B ≤ w.heap.size) (h2 : Own w' w.heap.size s2 ys) (hb : Below w.heap.size w w') : Two w' B a1 l1 c1 xs s2 ys := by
  refine ⟨w.heap.size, h1.below hb, h2, hB, ?_⟩
  rintro ad rfl
  exact (_root_.Go.World.ownsRow.lt h1 ad.block rfl).2
theorem Two.nil (w : World) (B : Nat) : Two w B none 0 0 [] (.slice none 0 0) [] := ⟨B, Own.nil _ _, Own.nil _ _, Nat.le_refl _, by simp⟩
/-! ### marks on wholes and ratios, and what they leave alone -/
/-- Nothing outside the blocks lo .. hi - 1 may have changed. -/
structure Chg (lo hi : Nat) (w w' : World) : Prop where
  os : w'.os = w.os
  tape : w'.tape = w.tape
  output : w'.output = w.output
  size : w.heap.size ≤ w'.heap.size
  block : ∀ k, k < w.heap.size → (k < lo ∨ hi ≤ k) → w'.heap[k]? = w.heap[k]?
theorem Chg.of {lo hi : Nat} {w w' : World} {g : Option Nat} (h : Only g w w') (hg : ∀ b, g = some b → lo ≤ b ∧ b < hi) : Chg lo hi w w' :=
  ⟨h.os, h.tape, h.output, h.size, fun k hk hq => h.block k hk (fun e => by have := hg k e.symm; omega)⟩
theorem Chg.trans {lo hi : Nat} {a b c : World} (h : Chg lo hi a b) (k : Chg lo hi b c) : Chg lo hi a c :=
  ⟨k.os.trans h.os, k.tape.trans h.tape, k.output.trans h.output, Nat.le_trans h.size k.size, fun i hi hg => (k.block i (Nat.lt_of_lt_of_le hi h.size) hg).trans (h.block i hi hg)⟩
theorem Chg.mono {lo hi lo' hi' : Nat} {a b : World} (h : Chg lo hi a b) (h1 : lo' ≤ lo) (h2 : hi ≤ hi') : Chg lo' hi' a b :=
  ⟨h.os, h.tape, h.output, h.size, fun k hk hq => h.block k hk (by omega)⟩
theorem Chg.refl (lo hi : Nat) (w : World) : Chg lo hi w w := ⟨rfl, rfl, rfl, Nat.le_refl _, fun _ _ _ => rfl⟩
theorem Chg.alloc {lo hi : Nat} {a b : World} (h : Chg lo hi a b) (o : Obj) : Chg lo hi a (b.alloc o) :=
  ⟨h.os, h.tape, h.output, Nat.le_trans h.size (by simp), fun k hk hg => by
    rw [← h.block k hk hg]
    exact (Below.alloc (Below.refl b.heap.size b) (Nat.le_refl _) o).block k (Nat.lt_of_lt_of_le hk h.size)⟩
theorem Chg.below {lo hi N : Nat} {a b : World} (h : Chg lo hi a b) (h1 : N ≤ lo) (h2 : N ≤ a.heap.size) : Below N a b :=
  ⟨h.os, h.tape, h.output, h.size, fun k hk => h.block k (by omega) (by omega)⟩
theorem Chg.cell {lo hi : Nat} {a b : World} (h : Chg lo hi a b) {k o : Nat} (h1 : k < a.heap.size) (h2 : k < lo ∨ hi ≤ k) {v : Option Value} (hv : a.cell? ⟨k, o, none⟩ = v) : b.cell? ⟨k, o, none⟩ = v :=
  (World.cell?_of_block (w := a) (w' := b) (a := ⟨k, o, none⟩) (h.block k h1 h2)).trans hv
theorem Seg.chg {w w' : World} {lo hi lo' hi' : Nat} {s : Value} {xs : List Int} (h : Seg w lo hi s xs) (hc : Chg lo' hi' w w') (hd : hi ≤ lo' ∨ hi' ≤ lo) : Seg w' lo hi s xs := by
  obtain ⟨⟨h1, h2⟩, h3⟩ := h
  refine ⟨⟨h1, ?_⟩, h3⟩
  rcases h2 with h2 | ⟨g, cap, cur, hv, hg, hh, r⟩
  · exact .inl h2
  · have q : g < hi := h3 g (by rw [hv]; rfl)
    have q2 : g < w.heap.size := by
      rcases Nat.lt_or_ge g w.heap.size with q | q
      · exact q
      · rw [Array.getElem?_eq_none q] at hh; cases hh
    exact .inr ⟨g, cap, cur, hv, hg, (hc.block g q2 (by omega)).trans hh, r⟩
theorem Two.segs {w : World} {B : Nat} {a1 : Option Addr} {l1 c1 : Nat} {xs : List Int} {s2 : Value} {ys : List Int} (h : Two w B a1 l1 c1 xs s2 ys) (hB : B ≤ w.heap.size) : ∃ C, Seg w B C (.slice a1 l1 c1) xs ∧ Seg w C w.heap.size s2 ys ∧ B ≤ C ∧ C ≤ w.heap.size := by
  obtain ⟨C, h1, h2, h3, h4⟩ := h
  refine ⟨min C w.heap.size, ⟨h1, fun b hb => ?_⟩, Seg.of (h2.mono (by omega)), by omega, by omega⟩
  have q := (h1.lt hb).1
  cases a1 with
  | none => cases hb
  | some ad =>
    have q2 := h4 ad rfl
    have e : ad.block = b := by simpa [Value.ownBlock] using hb
    omega
/-! ### boxes of the call's own, and what marks leave alone -/
theorem bthen3 {N : Nat} {w w0 w' : World} (k : Below w0.heap.size w0 w') (h : Below N w w0) (hN : N ≤ w0.heap.size) : Below N w w' := h.trans (k.mono hN)
/-- The block b holds the cells vs, and may be written. -/
def Box (w : World) (b : Nat) (vs : List Value) : Prop := b < w.heap.size ∧ (∀ i v, vs[i]? = some v → w.cell? ⟨b, i, none⟩ = some v) ∧ ∀ o, w.frozen? ⟨b, o, none⟩ = false
theorem Box.below {w w' : World} {b : Nat} {vs : List Value} (h : Box w b vs) (hb : Below w.heap.size w w') : Box w' b vs :=
  ⟨Nat.lt_of_lt_of_le h.1 hb.size, fun i v hi => (hb.cell (p := ⟨b, i, none⟩) h.1).trans (h.2.1 i v hi), fun o => (hb.frozen (p := ⟨b, o, none⟩) h.1).trans (h.2.2 o)⟩
theorem Box.drew {w : World} {b : Nat} {vs : List Value} (h : Box w b vs) : Box w.drew b vs := h
theorem Box.alloc {w : World} {b : Nat} {vs : List Value} (h : Box w b vs) (o : Obj) : Box (w.alloc o) b vs := h.below (Below.alloc (Below.refl _ _) (Nat.le_refl _) o)
theorem box_two {w : World} {b : Nat} {u v : Value} (h : b < w.heap.size) (h0 : w.cell? ⟨b, 0, none⟩ = some u) (h1 : w.cell? ⟨b, 1, none⟩ = some v) (hf : ∀ o, w.frozen? ⟨b, o, none⟩ = false) : Box w b [u, v] :=
  ⟨h, fun i x hi => by
    match i, hi with
    | 0, hi => obtain rfl : u = x := by simpa using hi
               exact h0
    | 1, hi => obtain rfl : v = x := by simpa using hi
               exact h1, hf⟩
theorem box_three {w : World} {b : Nat} {u v x : Value} (h : b < w.heap.size) (h0 : w.cell? ⟨b, 0, none⟩ = some u) (h1 : w.cell? ⟨b, 1, none⟩ = some v) (h2 : w.cell? ⟨b, 2, none⟩ = some x) (hf : ∀ o, w.frozen? ⟨b, o, none⟩ = false) : Box w b [u, v, x] :=
  ⟨h, fun i y hi => by
    match i, hi with
    | 0, hi => obtain rfl : u = y := by simpa using hi
               exact h0
    | 1, hi => obtain rfl : v = y := by simpa using hi
               exact h1
    | 2, hi => obtain rfl : x = y := by simpa using hi
               exact h2, hf⟩
theorem Box.set_ne {w : World} {b : Nat} {vs : List Value} {p : Addr} (h : Box w b vs) (hp : p.block ≠ b) (u : Value) : Box (w.setCell p u) b vs := by
  have ho := only_setCell w p u
  have hb := ho.block b h.1 (fun e => hp (Option.some.inj e).symm)
  exact ⟨Nat.lt_of_lt_of_le h.1 ho.size, fun i v hi => (World.cell?_of_block (w := w) (w' := w.setCell p u) (a := ⟨b, i, none⟩) hb).trans (h.2.1 i v hi), fun o => (World.frozen?_of_block (w := w) (w' := w.setCell p u) (a := ⟨b, o, none⟩) hb).trans (h.2.2 o)⟩
theorem Box.set {w : World} {b : Nat} {vs : List Value} (h : Box w b vs) (k : Nat) (hk : k < vs.length) (u : Value) : Box (w.setCell ⟨b, k, none⟩ u) b (vs.set k u) := by
  obtain ⟨h1, h2, h3⟩ := h
  have hc := h2 k vs[k] (List.getElem?_eq_getElem hk)
  refine ⟨Nat.lt_of_lt_of_le h1 (only_setCell w ⟨b, k, none⟩ u).size, fun i v hi => ?_, fun o => ?_⟩
  · by_cases e : i = k
    · subst e
      rw [List.getElem?_set_self hk] at hi
      cases hi
      simp [h1, hc, go_sem]
    · rw [List.getElem?_set_ne (by omega)] at hi
      have := h2 i v hi
      simp [this, e, Ne.symm e, go_sem]
  · have := h3 o
    simp [this, go_sem]
/-- Nothing outside the blocks of S may have changed. -/
structure ChgS (S : Nat → Prop) (w w' : World) : Prop where
  os : w'.os = w.os
  tape : w'.tape = w.tape
  output : w'.output = w.output
  size : w.heap.size ≤ w'.heap.size
  block : ∀ k, k < w.heap.size → ¬ S k → w'.heap[k]? = w.heap[k]?
theorem ChgS.of {w w' : World} {g : Option Nat} (h : Only g w w') : ChgS (fun k => g = some k) w w' := ⟨h.os, h.tape, h.output, h.size, fun k hk hq => h.block k hk (fun e => hq e.symm)⟩
theorem ChgS.trans {S : Nat → Prop} {a b c : World} (h : ChgS S a b) (k : ChgS S b c) : ChgS S a c :=
  ⟨k.os.trans h.os, k.tape.trans h.tape, k.output.trans h.output, Nat.le_trans h.size k.size, fun i hi hg => (k.block i (Nat.lt_of_lt_of_le hi h.size) hg).trans (h.block i hi hg)⟩
theorem ChgS.mono {S T : Nat → Prop} {a b : World} (h : ChgS S a b) (k : ∀ i, S i → T i) : ChgS T a b := ⟨h.os, h.tape, h.output, h.size, fun i hi hq => h.block i hi (fun e => hq (k i e))⟩
theorem ChgS.alloc {S : Nat → Prop} {a b : World} (h : ChgS S a b) (o : Obj) : ChgS S a (b.alloc o) :=
  ⟨h.os, h.tape, h.output, Nat.le_trans h.size (by simp), fun k hk hg => by
    rw [← h.block k hk hg]
    exact (Below.alloc (Below.refl b.heap.size b) (Nat.le_refl _) o).block k (Nat.lt_of_lt_of_le hk h.size)⟩
theorem ChgS.refl (S : Nat → Prop) (w : World) : ChgS S w w := ⟨rfl, rfl, rfl, Nat.le_refl _, fun _ _ _ => rfl⟩
theorem ChgS.below {S : Nat → Prop} {N : Nat} {a b : World} (h : ChgS S a b) (h1 : ∀ k, S k → N ≤ k) (h2 : N ≤ a.heap.size) : Below N a b :=
  ⟨h.os, h.tape, h.output, h.size, fun k hk => h.block k (by omega) (fun e => by have := h1 k e; omega)⟩
theorem Box.chg {S : Nat → Prop} {w w' : World} {b : Nat} {vs : List Value} (h : Box w b vs) (hc : ChgS S w w') (hn : ¬ S b) : Box w' b vs :=
  have hb := hc.block b h.1 hn
  ⟨Nat.lt_of_lt_of_le h.1 hc.size, fun i v hi => (World.cell?_of_block (w := w) (w' := w') (a := ⟨b, i, none⟩) hb).trans (h.2.1 i v hi), fun o => (World.frozen?_of_block (w := w) (w' := w') (a := ⟨b, o, none⟩) hb).trans (h.2.2 o)⟩
theorem Seg.rng {w : World} {lo hi k : Nat} {s : Value} {xs : List Int} (h : Seg w lo hi s xs) (hk : s.ownBlock = some k) : lo ≤ k ∧ k < hi := ⟨(h.1.lt hk).2, h.2 k hk⟩
theorem box_made2 (w : World) (u v : Value) (T : TypeId) : Box (w.alloc (Obj.cells #[u, v] T)) w.heap.size [u, v] := box_two (by simp) (by simp) (by simp) (fun o => by simp)
theorem Own.segL {w w0 : World} {s : Value} {xs : List Int} (h : Own w w0.heap.size s xs) : ∃ lo hi, Seg w lo hi s xs ∧ lo = w0.heap.size ∧ hi = w.heap.size := ⟨_, _, Seg.of h, rfl, rfl⟩
theorem Two.ints {w : World} {B : Nat} {a1 : Option Addr} {l1 c1 : Nat} {xs : List Int} {s2 : Value} {ys : List Int} (h : Two w B a1 l1 c1 xs s2 ys) : Ints w (.slice a1 l1 c1) xs ∧ Ints w s2 ys := by
  obtain ⟨C, h1, h2, -, -⟩ := h
  exact ⟨h1.ints, h2.ints⟩
theorem Two.segL {w w0 : World} {a1 : Option Addr} {l1 c1 : Nat} {xs : List Int} {s2 : Value} {ys : List Int} (h : Two w w0.heap.size a1 l1 c1 xs s2 ys) (hb : Below w0.heap.size w0 w) : ∃ lo mid hi, Seg w lo mid (.slice a1 l1 c1) xs ∧ Seg w mid hi s2 ys ∧ lo ≤ mid ∧ mid ≤ hi ∧ lo = w0.heap.size ∧ hi = w.heap.size := by
  obtain ⟨C, h1, h2, h3, h4⟩ := h.segs hb.size
  exact ⟨_, _, _, h1, h2, h3, h4, rfl, rfl⟩
/-- Two slices of the call's own, in blocks apart. -/
def Twin (w : World) (B : Nat) (s1 : Value) (xs : List Int) (s2 : Value) (ys : List Int) : Prop := Own w B s1 xs ∧ Own w B s2 ys ∧ ∀ k, s1.ownBlock = some k → s2.ownBlock ≠ some k
theorem Twin.ints {w : World} {B : Nat} {s1 s2 : Value} {xs ys : List Int} (h : Twin w B s1 xs s2 ys) : Ints w s1 xs ∧ Ints w s2 ys := ⟨h.1.ints, h.2.1.ints⟩
theorem Twin.nil (w : World) (B : Nat) : Twin w B (.slice none 0 0) [] (.slice none 0 0) [] := ⟨Own.nil _ _, Own.nil _ _, fun k h => by cases h⟩
theorem Twin.set {w : World} {B : Nat} {s1 s2 : Value} {xs ys : List Int} {p : Addr} (h : Twin w B s1 xs s2 ys) (hp : p.block < B) (u : Value) : Twin (w.setCell p u) B s1 xs s2 ys := ⟨h.1.set hp u, h.2.1.set hp u, h.2.2⟩
theorem Twin.mono {w : World} {B B' : Nat} {s1 s2 : Value} {xs ys : List Int} (h : Twin w B s1 xs s2 ys) (hB : B' ≤ B) : Twin w B' s1 xs s2 ys := ⟨h.1.mono hB, h.2.1.mono hB, h.2.2⟩
/-- One slice made, then the other. -/
theorem Twin.of {w w' : World} {B : Nat} {s1 s2 : Value} {xs ys : List Int} (h1 : Own w B s1 xs) (hB : B ≤ w.heap.size) (h2 : Own w' w.heap.size s2 ys) (hb : Below w.heap.size w w') : Twin w' B s1 xs s2 ys :=
  ⟨h1.below hb, h2.mono hB, fun k hk e => by have := (h1.lt hk).1; have := (h2.lt e).2; omega⟩
theorem Twin.swap {w : World} {B : Nat} {s1 s2 : Value} {xs ys : List Int} (h : Twin w B s1 xs s2 ys) : Twin w B s2 ys s1 xs := ⟨h.2.1, h.1, fun k hk e => h.2.2 k e hk⟩
theorem qa5 {W : World} {b : Nat} {vs : List Value} (h : Box W b vs := by (repeat' (first | (with_reducible first | assumption | refine Box.alloc ?_ _ | refine Box.drew ?_)))) : Box W b vs := h
theorem qa6 {S : Nat → Prop} {w v : World} (h : ChgS S w v := by (repeat' (first | (with_reducible first | exact ChgS.refl _ _ | assumption | refine ChgS.alloc ?_ _ | refine ChgS.setN ?_ (.inr (by first | omega | (simp; done) | (simp; omega))) _ | refine ChgS.drewNX ?_ _) | (refine ChgS.then2 (by assumption) ?_)))) : ChgS S w v := h
theorem qa7 {S : Nat → Prop} {w v : World} (h : ChgS S w v := by (repeat' (first | (with_reducible first | exact ChgS.refl _ _ | assumption | refine ChgS.alloc ?_ _ | refine ChgS.setN ?_ (.inr (by first | omega | (simp; done) | (simp; omega))) _ | refine ChgS.drewNX ?_ _ | refine ChgS.drewX ?_) | (refine ChgS.then2 (by with_reducible assumption) ?_)))) : ChgS S w v := h
end Go.Proofs.YtjgdajeoeagggaaGreat
