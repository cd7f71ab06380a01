import Derived.Test.YteenhcikogmjjaaBox
import Derived.Test.YteenhcikogmjjaaSub
import Derived.Test.YteenhcikogmjjaaLawB
set_option linter.unusedSimpArgs false
set_option linter.unusedVariables false
namespace Go.Proofs.Yteenhcikogmjjaa
open Go.RowKit
/-! ### aids for functions that reckon with wholes in boxes -/

/-- The sign and the digits of a number. -/
structure WZ (z : Int) (n : Bool) (D : List Int) : Prop where
  s : decide (z < 0) = n
  d : dg z.natAbs = D
theorem WZ.mk' (z : Int) : WZ z (decide (z < 0)) (dg z.natAbs) := ⟨rfl, rfl⟩
theorem Ints.alloc {w : World} {s : Value} {xs : List Int} (h : Ints w s xs) (o : Obj) : Ints (w.alloc o) s xs := h.below (Below.alloc (Below.refl _ _) (Nat.le_refl _) o)
theorem setCell_other {w : World} {p q : Addr} {u v x : Value} (hp : w.cell? p = some u) (hq : w.cell? q = some v) (hne : u ≠ v) : (w.setCell p x).cell? q = some v := by
  rw [World.cell?_setCell_other _ _ _ _ (fun e => hne (by rw [e] at hp; rw [hp] at hq; exact Option.some.inj hq)), hq]
/-- A store over what is no number leaves numbers alone. -/
theorem Ints.set_ni {w : World} {s : Value} {xs : List Int} (h : Ints w s xs) {p : Addr} {u : Value} (hp : w.cell? p = some u) (hu : ∀ k n, u ≠ .int k n) (v : Value) : Ints (w.setCell p v) s xs := by
  rcases h with h | ⟨b, off, len, cap, hs, hl, h0, hc, hm, hbl, hcell⟩
  · exact .inl h
  · exact .inr ⟨b, off, len, cap, hs, hl, h0, hc, hm, Nat.lt_of_lt_of_le hbl (only_setCell w p v).size, fun i hi => setCell_other hp (hcell i hi) (hu _ _)⟩
/-- A whole is stored into a box. -/
def sto (w : World) (T : Nat) (n : Bool) (s : Value) : World := (w.setCell ⟨T, 0, none⟩ (.bool n)).setCell ⟨T, 1, none⟩ s
theorem Ints.sto {w : World} {s : Value} {xs : List Int} (h : Ints w s xs) {T : Nat} {m : Bool} {a : Option Addr} {l c : Nat} (hb : Box w T [.bool m, .slice a l c]) (n : Bool) (t : Value) : Ints (sto w T n t) s xs := by
  have h1 := hb.2.1 0 _ rfl
  have h2 := hb.2.1 1 _ rfl
  have h3 := h.set_ni h1 (by intro k n; simp) (.bool n)
  have h4 : (w.setCell ⟨T, 0, none⟩ (.bool n)).cell? ⟨T, 1, none⟩ = some (.slice a l c) := setCell_other h1 h2 (by simp)
  exact h3.set_ni h4 (by intro k n; simp) t
theorem Box.sto {w : World} {T : Nat} {u v : Value} (hb : Box w T [u, v]) (n : Bool) (t : Value) : Box (sto w T n t) T [.bool n, t] := (hb.set 0 (by simp) _).set 1 (by simp) _
theorem Box.sto_ne {w : World} {b T : Nat} {vs : List Value} (hb : Box w b vs) (h : T ≠ b) (n : Bool) (t : Value) : Box (Proofs.Yteenhcikogmjjaa.sto w T n t) b vs := (hb.set_ne h _).set_ne h _
theorem below_sto {w W : World} {N T : Nat} (h : Below N w W) (hT : N ≤ T) (n : Bool) (t : Value) : Below N w (sto W T n t) := Below.setCell (Below.setCell h hT _) hT _
theorem sto_size (w : World) (T : Nat) (n : Bool) (t : Value) : (sto w T n t).heap.size = w.heap.size := by simp [sto]
theorem Own.sto {w : World} {B : Nat} {s : Value} {xs : List Int} {T : Nat} (h : Own w B s xs) (hT : T < B) (n : Bool) (t : Value) : Own (Proofs.Yteenhcikogmjjaa.sto w T n t) B s xs := (h.set hT _).set hT _
theorem ChgS.stepB {S : Nat → Prop} {a b c : World} (hb : Below b.heap.size b c) (h : ChgS S a b) : ChgS S a c :=
  ⟨hb.os.trans h.os, hb.tape.trans h.tape, hb.output.trans h.output, Nat.le_trans h.size hb.size, fun k hk hn => (hb.block k (Nat.lt_of_lt_of_le hk h.size)).trans (h.block k hk hn)⟩
theorem ChgS.drew {S : Nat → Prop} {a b : World} (h : ChgS S a b) : ChgS S a b.drew := ⟨h.os, h.tape, h.output, h.size, h.block⟩
theorem ChgS.set {S : Nat → Prop} {a b : World} {p : Addr} (h : ChgS S a b) (hp : S p.block) (u : Value) : ChgS S a (b.setCell p u) := by
  have ho := only_setCell b p u
  exact ⟨ho.os.trans h.os, ho.tape.trans h.tape, ho.output.trans h.output, Nat.le_trans h.size ho.size, fun k hk hn => (ho.block k (Nat.lt_of_lt_of_le hk h.size) (fun e => hn (by have e2 := Option.some.inj e; subst e2; exact hp))).trans (h.block k hk hn)⟩
theorem ChgS.cell {T : Nat} {w w' : World} (h : ChgS (fun k => k = T) w w') {b o : Nat} (hl : b < w.heap.size) (hne : T ≠ b) : w'.cell? ⟨b, o, none⟩ = w.cell? ⟨b, o, none⟩ :=
  World.cell?_of_block (w := w) (w' := w') (a := ⟨b, o, none⟩) (h.block b hl (fun e => hne e.symm))
theorem box_made2' (w : World) (u v : Value) (T : TypeId) {b : Nat} (h : b = w.heap.size) : Box (w.alloc (Obj.cells #[u, v] T)) b [u, v] := by rw [h]; exact box_made2 w u v T
theorem box_new1 (w : World) (o : Obj) (u v : Value) (T : TypeId) : Box ((w.alloc o).alloc (Obj.cells #[u, v] T)) (w.heap.size + 1) [u, v] := by have := box_made2 (w.alloc o) u v T; simpa using this
theorem wsAt_made3 (w : World) (T : TypeId) {z0 z1 z2 : Int} {n0 n1 n2 : Bool} {D0 D1 D2 : List Int} {a0 a1 a2 : Option Addr} {l0 l1 l2 c0 c1 c2 : Nat} (k0 : WZ z0 n0 D0) (k1 : WZ z1 n1 D1) (k2 : WZ z2 n2 D2) (i0 : Ints w (.slice a0 l0 c0) D0) (i1 : Ints w (.slice a1 l1 c1) D1) (i2 : Ints w (.slice a2 l2 c2) D2) :
    WsAt (w.alloc (Obj.cells #[.bool n0, .slice a0 l0 c0, .bool n1, .slice a1 l1 c1, .bool n2, .slice a2 l2 c2] T)) w.heap.size [z0, z1, z2] := by
  refine ⟨by simp, fun i hi => ?_⟩
  simp only [List.length_cons, List.length_nil] at hi
  rcases (show i = 0 ∨ i = 1 ∨ i = 2 by omega) with rfl | rfl | rfl
  · exact ⟨a0, l0, c0, by simp [k0.s], by simp, by have := i0.alloc (Obj.cells #[.bool n0, .slice a0 l0 c0, .bool n1, .slice a1 l1 c1, .bool n2, .slice a2 l2 c2] T); rw [← k0.d] at this; exact this⟩
  · exact ⟨a1, l1, c1, by simp [k1.s], by simp, by have := i1.alloc (Obj.cells #[.bool n0, .slice a0 l0 c0, .bool n1, .slice a1 l1 c1, .bool n2, .slice a2 l2 c2] T); rw [← k1.d] at this; exact this⟩
  · exact ⟨a2, l2, c2, by simp [k2.s], by simp, by have := i2.alloc (Obj.cells #[.bool n0, .slice a0 l0 c0, .bool n1, .slice a1 l1 c1, .bool n2, .slice a2 l2 c2] T); rw [← k2.d] at this; exact this⟩
theorem wsAt_made4 (w : World) (T : TypeId) {z0 z1 z2 z3 : Int} {n0 n1 n2 n3 : Bool} {D0 D1 D2 D3 : List Int} {a0 a1 a2 a3 : Option Addr} {l0 l1 l2 l3 c0 c1 c2 c3 : Nat} (k0 : WZ z0 n0 D0) (k1 : WZ z1 n1 D1) (k2 : WZ z2 n2 D2) (k3 : WZ z3 n3 D3) (i0 : Ints w (.slice a0 l0 c0) D0) (i1 : Ints w (.slice a1 l1 c1) D1) (i2 : Ints w (.slice a2 l2 c2) D2) (i3 : Ints w (.slice a3 l3 c3) D3) :
    WsAt (w.alloc (Obj.cells #[.bool n0, .slice a0 l0 c0, .bool n1, .slice a1 l1 c1, .bool n2, .slice a2 l2 c2, .bool n3, .slice a3 l3 c3] T)) w.heap.size [z0, z1, z2, z3] := by
  refine ⟨by simp, fun i hi => ?_⟩
  simp only [List.length_cons, List.length_nil] at hi
  rcases (show i = 0 ∨ i = 1 ∨ i = 2 ∨ i = 3 by omega) with rfl | rfl | rfl | rfl
  · exact ⟨a0, l0, c0, by simp [k0.s], by simp, by have := i0.alloc (Obj.cells #[.bool n0, .slice a0 l0 c0, .bool n1, .slice a1 l1 c1, .bool n2, .slice a2 l2 c2, .bool n3, .slice a3 l3 c3] T); rw [← k0.d] at this; exact this⟩
  · exact ⟨a1, l1, c1, by simp [k1.s], by simp, by have := i1.alloc (Obj.cells #[.bool n0, .slice a0 l0 c0, .bool n1, .slice a1 l1 c1, .bool n2, .slice a2 l2 c2, .bool n3, .slice a3 l3 c3] T); rw [← k1.d] at this; exact this⟩
  · exact ⟨a2, l2, c2, by simp [k2.s], by simp, by have := i2.alloc (Obj.cells #[.bool n0, .slice a0 l0 c0, .bool n1, .slice a1 l1 c1, .bool n2, .slice a2 l2 c2, .bool n3, .slice a3 l3 c3] T); rw [← k2.d] at this; exact this⟩
  · exact ⟨a3, l3, c3, by simp [k3.s], by simp, by have := i3.alloc (Obj.cells #[.bool n0, .slice a0 l0 c0, .bool n1, .slice a1 l1 c1, .bool n2, .slice a2 l2 c2, .bool n3, .slice a3 l3 c3] T); rw [← k3.d] at this; exact this⟩
theorem wsAt_made5 (w : World) (T : TypeId) {z0 z1 z2 z3 z4 : Int} {n0 n1 n2 n3 n4 : Bool} {D0 D1 D2 D3 D4 : List Int} {a0 a1 a2 a3 a4 : Option Addr} {l0 l1 l2 l3 l4 c0 c1 c2 c3 c4 : Nat} (k0 : WZ z0 n0 D0) (k1 : WZ z1 n1 D1) (k2 : WZ z2 n2 D2) (k3 : WZ z3 n3 D3) (k4 : WZ z4 n4 D4) (i0 : Ints w (.slice a0 l0 c0) D0) (i1 : Ints w (.slice a1 l1 c1) D1) (i2 : Ints w (.slice a2 l2 c2) D2) (i3 : Ints w (.slice a3 l3 c3) D3) (i4 : Ints w (.slice a4 l4 c4) D4) :
    WsAt (w.alloc (Obj.cells #[.bool n0, .slice a0 l0 c0, .bool n1, .slice a1 l1 c1, .bool n2, .slice a2 l2 c2, .bool n3, .slice a3 l3 c3, .bool n4, .slice a4 l4 c4] T)) w.heap.size [z0, z1, z2, z3, z4] := by
  refine ⟨by simp, fun i hi => ?_⟩
  simp only [List.length_cons, List.length_nil] at hi
  rcases (show i = 0 ∨ i = 1 ∨ i = 2 ∨ i = 3 ∨ i = 4 by omega) with rfl | rfl | rfl | rfl | rfl
  · exact ⟨a0, l0, c0, by simp [k0.s], by simp, by have := i0.alloc (Obj.cells #[.bool n0, .slice a0 l0 c0, .bool n1, .slice a1 l1 c1, .bool n2, .slice a2 l2 c2, .bool n3, .slice a3 l3 c3, .bool n4, .slice a4 l4 c4] T); rw [← k0.d] at this; exact this⟩
  · exact ⟨a1, l1, c1, by simp [k1.s], by simp, by have := i1.alloc (Obj.cells #[.bool n0, .slice a0 l0 c0, .bool n1, .slice a1 l1 c1, .bool n2, .slice a2 l2 c2, .bool n3, .slice a3 l3 c3, .bool n4, .slice a4 l4 c4] T); rw [← k1.d] at this; exact this⟩
  · exact ⟨a2, l2, c2, by simp [k2.s], by simp, by have := i2.alloc (Obj.cells #[.bool n0, .slice a0 l0 c0, .bool n1, .slice a1 l1 c1, .bool n2, .slice a2 l2 c2, .bool n3, .slice a3 l3 c3, .bool n4, .slice a4 l4 c4] T); rw [← k2.d] at this; exact this⟩
  · exact ⟨a3, l3, c3, by simp [k3.s], by simp, by have := i3.alloc (Obj.cells #[.bool n0, .slice a0 l0 c0, .bool n1, .slice a1 l1 c1, .bool n2, .slice a2 l2 c2, .bool n3, .slice a3 l3 c3, .bool n4, .slice a4 l4 c4] T); rw [← k3.d] at this; exact this⟩
  · exact ⟨a4, l4, c4, by simp [k4.s], by simp, by have := i4.alloc (Obj.cells #[.bool n0, .slice a0 l0 c0, .bool n1, .slice a1 l1 c1, .bool n2, .slice a2 l2 c2, .bool n3, .slice a3 l3 c3, .bool n4, .slice a4 l4 c4] T); rw [← k4.d] at this; exact this⟩
theorem WsAt.cast {w : World} {b b2 : Nat} {zs : List Int} (hw : WsAt w b2 zs) (h : b = b2) : WsAt w b zs := by rw [h]; exact hw
theorem WsAt.alloc {w : World} {b : Nat} {zs : List Int} (h : WsAt w b zs) (o : Obj) : WsAt (w.alloc o) b zs := by
  have hb : Below w.heap.size w (w.alloc o) := Below.alloc (Below.refl _ _) (Nat.le_refl _) o
  refine ⟨Nat.lt_of_lt_of_le h.1 hb.size, fun i hi => ?_⟩
  obtain ⟨a, l, c, h1, h2, h3⟩ := h.2 i hi
  exact ⟨a, l, c, (hb.cell (p := ⟨b, i * 2, none⟩) h.1).trans h1, (hb.cell (p := ⟨b, i * 2 + 1, none⟩) h.1).trans h2, h3.below hb⟩
theorem WsAt.drew {w : World} {b : Nat} {zs : List Int} (h : WsAt w b zs) : WsAt w.drew b zs := h
theorem dg_len_sub (a b : Int) {n : Nat} (h1 : (dg a.natAbs).length ≤ n) (h2 : (dg b.natAbs).length ≤ n) : (dg (a - b).natAbs).length ≤ n + 1 := by
  have := dg_len_add a (-b) h1 (by rw [Int.natAbs_neg]; exact h2)
  rwa [← Int.sub_eq_add_neg] at this
theorem prodL_dg (zs : List Int) (L : Nat) (h : ∀ k, k < zs.length → (dg (zs.getD k 0).natAbs).length ≤ L) : ∀ k, k ≤ zs.length → (dg (prodL (zs.take k)).natAbs).length ≤ 5 + k * L
  | 0, _ => by rw [prodL_zero]; have := dg_len (1 : Int).natAbs (by decide); omega
  | k + 1, hk => by
    have ih := prodL_dg zs L h k (by omega)
    rw [← prodL_step _ _ (by omega)]
    have := dg_len_mul (prodL (zs.take k)) (zs.getD k 0)
    have := h k (by omega)
    rw [Nat.succ_mul]; omega
theorem sumL_dg (zs : List Int) (L : Nat) (hL : 5 ≤ L) (h : ∀ k, k < zs.length → (dg (zs.getD k 0).natAbs).length ≤ L) : ∀ k, k ≤ zs.length → (dg (sumL (zs.take k)).natAbs).length ≤ L + k
  | 0, _ => by rw [sumL_zero]; have := dg_len (0 : Int).natAbs (by decide); omega
  | k + 1, hk => by
    have ih := sumL_dg zs L hL h k (by omega)
    rw [← sumL_step]
    have := dg_len_add (sumL (zs.take k)) (zs.getD k 0) (n := L + k) ih (by have := h k (by omega); omega)
    omega
theorem fresh_leaf {W u : World} {b : Nat} {n : Bool} {a : Option Addr} {l c : Nat} {D : List Int} (hle : W.heap.size ≤ b) (i : Ints u (.slice a l c) D) (hB : Below W.heap.size W u) (g : Box u b [.bool false, .slice none 0 0]) :
    Box ((u.setCell ⟨b, 0, none⟩ (.bool n)).setCell ⟨b, 1, none⟩ (.slice a l c)) b [.bool n, .slice a l c] ∧ Ints ((u.setCell ⟨b, 0, none⟩ (.bool n)).setCell ⟨b, 1, none⟩ (.slice a l c)) (.slice a l c) D ∧ W.heap.size ≤ b ∧ Below W.heap.size W ((u.setCell ⟨b, 0, none⟩ (.bool n)).setCell ⟨b, 1, none⟩ (.slice a l c)) :=
  ⟨g.sto n _, i.sto g n _, hle, below_sto hB hle n _⟩
theorem fresh_leafA {W u : World} {T : TypeId} {n : Bool} {a : Option Addr} {l c : Nat} {D : List Int} (hle : W.heap.size ≤ u.heap.size) (i : Ints u (.slice a l c) D) (hB : Below W.heap.size W u) :
    Box (u.alloc (Obj.cells #[.bool n, .slice a l c] T)) u.heap.size [.bool n, .slice a l c] ∧ Ints (u.alloc (Obj.cells #[.bool n, .slice a l c] T)) (.slice a l c) D ∧ W.heap.size ≤ u.heap.size ∧ Below W.heap.size W (u.alloc (Obj.cells #[.bool n, .slice a l c] T)) :=
  ⟨box_made2 _ _ _ _, i.alloc _, hle, Below.alloc hB hle _⟩
theorem fresh_leafA12 {W u : World} {T : TypeId} {n m : Bool} {a a2 : Option Addr} {l c l2 c2 : Nat} {D E : List Int} (hle : W.heap.size ≤ u.heap.size) (i : Ints u (.slice a l c) D) (i2 : Ints u (.slice a2 l2 c2) E) (hB : Below W.heap.size W u) :
    Box ((u.alloc (Obj.cells #[.bool n, .slice a l c] T)).alloc (Obj.cells #[.bool m, .slice a2 l2 c2] T)) u.heap.size [.bool n, .slice a l c] ∧ Box ((u.alloc (Obj.cells #[.bool n, .slice a l c] T)).alloc (Obj.cells #[.bool m, .slice a2 l2 c2] T)) (u.heap.size + 1) [.bool m, .slice a2 l2 c2] ∧ Ints ((u.alloc (Obj.cells #[.bool n, .slice a l c] T)).alloc (Obj.cells #[.bool m, .slice a2 l2 c2] T)) (.slice a l c) D ∧ Ints ((u.alloc (Obj.cells #[.bool n, .slice a l c] T)).alloc (Obj.cells #[.bool m, .slice a2 l2 c2] T)) (.slice a2 l2 c2) E ∧ W.heap.size ≤ u.heap.size ∧ W.heap.size ≤ (u.heap.size + 1) ∧ u.heap.size ≠ (u.heap.size + 1) ∧ Below W.heap.size W ((u.alloc (Obj.cells #[.bool n, .slice a l c] T)).alloc (Obj.cells #[.bool m, .slice a2 l2 c2] T)) := by
  have hb : Below W.heap.size W (u.alloc (Obj.cells #[.bool n, .slice a l c] T)) := Below.alloc hB hle _
  exact ⟨(box_made2 _ _ _ _).alloc _, box_made2' _ _ _ _ (by simp), (i.alloc _).alloc _, (i2.alloc _).alloc _, hle, by omega, by omega, Below.alloc hb (by simp; omega) _⟩
theorem fresh_leafA21 {W u : World} {T : TypeId} {n m : Bool} {a a2 : Option Addr} {l c l2 c2 : Nat} {D E : List Int} (hle : W.heap.size ≤ u.heap.size) (i : Ints u (.slice a l c) D) (i2 : Ints u (.slice a2 l2 c2) E) (hB : Below W.heap.size W u) :
    Box ((u.alloc (Obj.cells #[.bool m, .slice a2 l2 c2] T)).alloc (Obj.cells #[.bool n, .slice a l c] T)) (u.heap.size + 1) [.bool n, .slice a l c] ∧ Box ((u.alloc (Obj.cells #[.bool m, .slice a2 l2 c2] T)).alloc (Obj.cells #[.bool n, .slice a l c] T)) u.heap.size [.bool m, .slice a2 l2 c2] ∧ Ints ((u.alloc (Obj.cells #[.bool m, .slice a2 l2 c2] T)).alloc (Obj.cells #[.bool n, .slice a l c] T)) (.slice a l c) D ∧ Ints ((u.alloc (Obj.cells #[.bool m, .slice a2 l2 c2] T)).alloc (Obj.cells #[.bool n, .slice a l c] T)) (.slice a2 l2 c2) E ∧ W.heap.size ≤ (u.heap.size + 1) ∧ W.heap.size ≤ u.heap.size ∧ (u.heap.size + 1) ≠ u.heap.size ∧ Below W.heap.size W ((u.alloc (Obj.cells #[.bool m, .slice a2 l2 c2] T)).alloc (Obj.cells #[.bool n, .slice a l c] T)) := by
  have hb : Below W.heap.size W (u.alloc (Obj.cells #[.bool m, .slice a2 l2 c2] T)) := Below.alloc hB hle _
  exact ⟨box_made2' _ _ _ _ (by simp), (box_made2 _ _ _ _).alloc _, (i.alloc _).alloc _, (i2.alloc _).alloc _, by omega, hle, by omega, Below.alloc hb (by simp; omega) _⟩
theorem fresh_leafB1 {b : Nat} {W u : World} {T : TypeId} {n m : Bool} {a a2 : Option Addr} {l c l2 c2 : Nat} {D E : List Int} (hle : W.heap.size ≤ u.heap.size) (i : Ints u (.slice a l c) D) (i2 : Ints u (.slice a2 l2 c2) E) (hB : Below W.heap.size W u) (h1 : W.heap.size ≤ b) (g : Box u b [.bool false, .slice none 0 0]) :
    Box (((u.setCell ⟨b, 0, none⟩ (.bool n)).setCell ⟨b, 1, none⟩ (.slice a l c)).alloc (Obj.cells #[.bool m, .slice a2 l2 c2] T)) b [.bool n, .slice a l c] ∧ Box (((u.setCell ⟨b, 0, none⟩ (.bool n)).setCell ⟨b, 1, none⟩ (.slice a l c)).alloc (Obj.cells #[.bool m, .slice a2 l2 c2] T)) u.heap.size [.bool m, .slice a2 l2 c2] ∧ Ints (((u.setCell ⟨b, 0, none⟩ (.bool n)).setCell ⟨b, 1, none⟩ (.slice a l c)).alloc (Obj.cells #[.bool m, .slice a2 l2 c2] T)) (.slice a l c) D ∧ Ints (((u.setCell ⟨b, 0, none⟩ (.bool n)).setCell ⟨b, 1, none⟩ (.slice a l c)).alloc (Obj.cells #[.bool m, .slice a2 l2 c2] T)) (.slice a2 l2 c2) E ∧ W.heap.size ≤ b ∧ W.heap.size ≤ u.heap.size ∧ b ≠ u.heap.size ∧ Below W.heap.size W (((u.setCell ⟨b, 0, none⟩ (.bool n)).setCell ⟨b, 1, none⟩ (.slice a l c)).alloc (Obj.cells #[.bool m, .slice a2 l2 c2] T)) := by
  have hb := below_sto hB h1 n (.slice a l c)
  have hs := sto_size u b n (.slice a l c)
  exact ⟨(g.sto n _).alloc _, box_made2' _ _ _ _ hs.symm, (i.sto g n _).alloc _, (i2.sto g n _).alloc _, h1, hle, Nat.ne_of_lt g.1, Below.alloc hb (Nat.le_trans hle (Nat.le_of_eq hs.symm)) _⟩
theorem fresh_leafB2 {b : Nat} {W u : World} {T : TypeId} {n m : Bool} {a a2 : Option Addr} {l c l2 c2 : Nat} {D E : List Int} (hle : W.heap.size ≤ u.heap.size) (i : Ints u (.slice a l c) D) (i2 : Ints u (.slice a2 l2 c2) E) (hB : Below W.heap.size W u) (h1 : W.heap.size ≤ b) (g : Box u b [.bool false, .slice none 0 0]) :
    Box (((u.setCell ⟨b, 0, none⟩ (.bool m)).setCell ⟨b, 1, none⟩ (.slice a2 l2 c2)).alloc (Obj.cells #[.bool n, .slice a l c] T)) u.heap.size [.bool n, .slice a l c] ∧ Box (((u.setCell ⟨b, 0, none⟩ (.bool m)).setCell ⟨b, 1, none⟩ (.slice a2 l2 c2)).alloc (Obj.cells #[.bool n, .slice a l c] T)) b [.bool m, .slice a2 l2 c2] ∧ Ints (((u.setCell ⟨b, 0, none⟩ (.bool m)).setCell ⟨b, 1, none⟩ (.slice a2 l2 c2)).alloc (Obj.cells #[.bool n, .slice a l c] T)) (.slice a l c) D ∧ Ints (((u.setCell ⟨b, 0, none⟩ (.bool m)).setCell ⟨b, 1, none⟩ (.slice a2 l2 c2)).alloc (Obj.cells #[.bool n, .slice a l c] T)) (.slice a2 l2 c2) E ∧ W.heap.size ≤ u.heap.size ∧ W.heap.size ≤ b ∧ u.heap.size ≠ b ∧ Below W.heap.size W (((u.setCell ⟨b, 0, none⟩ (.bool m)).setCell ⟨b, 1, none⟩ (.slice a2 l2 c2)).alloc (Obj.cells #[.bool n, .slice a l c] T)) := by
  have hb := below_sto hB h1 m (.slice a2 l2 c2)
  have hs := sto_size u b m (.slice a2 l2 c2)
  exact ⟨box_made2' _ _ _ _ hs.symm, (g.sto m _).alloc _, (i.sto g m _).alloc _, (i2.sto g m _).alloc _, hle, h1, fun e => Nat.ne_of_lt g.1 e.symm, Below.alloc hb (Nat.le_trans hle (Nat.le_of_eq hs.symm)) _⟩
theorem fresh_leaf2 {W u : World} {b d : Nat} {n m : Bool} {a a2 : Option Addr} {l c l2 c2 : Nat} {D E : List Int} (h1 : W.heap.size ≤ b) (h2 : W.heap.size ≤ d) (hne : b ≠ d) (i : Ints u (.slice a l c) D) (i2 : Ints u (.slice a2 l2 c2) E) (hB : Below W.heap.size W u) (g : Box u b [.bool false, .slice none 0 0]) (g2 : Box u d [.bool false, .slice none 0 0]) :
    Box ((((u.setCell ⟨b, 0, none⟩ (.bool n)).setCell ⟨b, 1, none⟩ (.slice a l c)).setCell ⟨d, 0, none⟩ (.bool m)).setCell ⟨d, 1, none⟩ (.slice a2 l2 c2)) b [.bool n, .slice a l c] ∧ Box ((((u.setCell ⟨b, 0, none⟩ (.bool n)).setCell ⟨b, 1, none⟩ (.slice a l c)).setCell ⟨d, 0, none⟩ (.bool m)).setCell ⟨d, 1, none⟩ (.slice a2 l2 c2)) d [.bool m, .slice a2 l2 c2] ∧
    Ints ((((u.setCell ⟨b, 0, none⟩ (.bool n)).setCell ⟨b, 1, none⟩ (.slice a l c)).setCell ⟨d, 0, none⟩ (.bool m)).setCell ⟨d, 1, none⟩ (.slice a2 l2 c2)) (.slice a l c) D ∧ Ints ((((u.setCell ⟨b, 0, none⟩ (.bool n)).setCell ⟨b, 1, none⟩ (.slice a l c)).setCell ⟨d, 0, none⟩ (.bool m)).setCell ⟨d, 1, none⟩ (.slice a2 l2 c2)) (.slice a2 l2 c2) E ∧ W.heap.size ≤ b ∧ W.heap.size ≤ d ∧ b ≠ d ∧ Below W.heap.size W ((((u.setCell ⟨b, 0, none⟩ (.bool n)).setCell ⟨b, 1, none⟩ (.slice a l c)).setCell ⟨d, 0, none⟩ (.bool m)).setCell ⟨d, 1, none⟩ (.slice a2 l2 c2)) := by
  have q2 : Box (Proofs.Yteenhcikogmjjaa.sto u b n (.slice a l c)) d [.bool false, .slice none 0 0] := g2.sto_ne hne n _
  exact ⟨Box.sto_ne (g.sto n _) (Ne.symm hne) m _, q2.sto m _, (i.sto g n _).sto q2 m _, (i2.sto g n _).sto q2 m _, h1, h2, hne, below_sto (below_sto hB h1 n _) h2 m _⟩

end Go.Proofs.Yteenhcikogmjjaa
