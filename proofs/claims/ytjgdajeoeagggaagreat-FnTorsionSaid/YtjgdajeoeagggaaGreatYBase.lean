import Derived.Test.YtjgdajeoeagggaaGreatRows
import Derived.WalkKit
import Derived.WalkSpells
import Derived.WalkLawsBesides
import Derived.Handy
import Derived.Deep.Draws
import Derived.Deep.QuietTactic
import Derived.BigQuiet
import Derived.Deep.RegionHeld3
import Derived.StillTailTactics
import Derived.Deep.DeepCutAuto
import Derived.Deep.CutBlock
import Derived.Lib.Hide
set_option linter.unusedSimpArgs false
set_option linter.unusedVariables false
namespace Go.Proofs.YtjgdajeoeagggaaGreat
open Go.RowKit
/-- The call hands back v and leaves all that was there as it was. -/
def Gives (v : Value) (w : World) (e : Ending) (w' : World) : Prop := e = .returned v ∧ Below w.heap.size w w'
/-- The call hands back v and leaves the world alone. -/
def Same (v : Value) (w : World) (e : Ending) (w' : World) : Prop := e = .returned v ∧ w = w'
/-- The call hands back v; it may have drawn. -/
def Quiet (v : Value) (w : World) (e : Ending) (w' : World) : Prop := e = .returned v ∧ ∃ n, w' = w.drewN n
theorem quiet {v v' : Value} {w : World} (n : Nat) (h : v' = v) : Quiet v w (.returned v') (w.drewN n) := ⟨by rw [h], n, rfl⟩
theorem qs {P : Program} {f : FuncId} {args : Array Value} {w : World} {n : Nat} {v : Value} (h : Calls P f args (w.drewN n) (Same v (w.drewN n))) : Calls P f args (w.drewN n) fun e w'' => e = .returned v ∧ ∃ m, w'' = w.drewN m :=
  h.mono fun _ _ ⟨he, hm⟩ => ⟨he, n, hm.symm⟩
theorem gives {v v' : Value} {w w' : World} (h : v' = v) (hb : Below w.heap.size w w') : Gives v w (.returned v') w' := ⟨by rw [h], hb⟩
theorem same {v v' : Value} {w : World} (h : v' = v) : Same v w (.returned v') w := ⟨by rw [h], rfl⟩
theorem vint {a b : Int} (h : a = b) : Value.int .i64 a = .int .i64 b := by rw [h]
theorem vbool {a b : Bool} (h : a = b) : Value.bool a = .bool b := by rw [h]
theorem keepc {W w1 : World} (hb : Below W.heap.size W w1) (k : Nat) {P : Prop} (h : k < W.heap.size) (go : (∀ o, w1.cell? ⟨k, o, none⟩ = W.cell? ⟨k, o, none⟩) → (∀ o, w1.frozen? ⟨k, o, none⟩ = W.frozen? ⟨k, o, none⟩) → k < w1.heap.size → P) : P := go (fun o => hb.cell (p := ⟨k, o, none⟩) h) (fun o => hb.frozen (p := ⟨k, o, none⟩) h) (Nat.lt_of_lt_of_le h hb.size)
theorem bthen {w w0 w' : World} (h : Below w.heap.size w w0) (k : Below w0.heap.size w0 w') : Below w.heap.size w w' := h.trans (k.mono h.size)
theorem bthen2 {w w0 w' : World} (k : Below w0.heap.size w0 w') (h : Below w.heap.size w w0) : Below w.heap.size w w' := h.trans (k.mono h.size)
/-! ### arithmetic that goes round, in one normal form -/
theorem wr_cong {a b : Int} (h : a % 18446744073709551616 = b % 18446744073709551616) : wrap64 a = wrap64 b := by unfold wrap64; omega
theorem wr_mod (a : Int) : wrap64 a % 18446744073709551616 = a % 18446744073709551616 := by unfold wrap64; omega
theorem wadd_l (a b : Int) : wrap64 (wrap64 a + b) = wrap64 (a + b) := wr_cong (by rw [Int.add_emod, wr_mod, ← Int.add_emod])
theorem wadd_r (a b : Int) : wrap64 (a + wrap64 b) = wrap64 (a + b) := wr_cong (by rw [Int.add_emod, wr_mod, ← Int.add_emod])
theorem wsub_l (a b : Int) : wrap64 (wrap64 a - b) = wrap64 (a - b) := wr_cong (by rw [Int.sub_emod, wr_mod, ← Int.sub_emod])
theorem wsub_r (a b : Int) : wrap64 (a - wrap64 b) = wrap64 (a - b) := wr_cong (by rw [Int.sub_emod, wr_mod, ← Int.sub_emod])
theorem wmul_l (a b : Int) : wrap64 (wrap64 a * b) = wrap64 (a * b) := wr_cong (by rw [Int.mul_emod, wr_mod, ← Int.mul_emod])
theorem wmul_r (a b : Int) : wrap64 (a * wrap64 b) = wrap64 (a * b) := wr_cong (by rw [Int.mul_emod, wr_mod, ← Int.mul_emod])
theorem win {n : Int} (h : -9223372036854775808 ≤ n ∧ n ≤ 9223372036854775807) : wrap64 n = n := IntWalk.wrap64_in n h
/-! ### max, min: no test parts the walk -/
@[go_sem] theorem max_ints (ats : Array TypeId) (ty : TypeId) (x y : Int) : Builtin.max_ ats ty #[.int .i64 x, .int .i64 y] = pure (.int .i64 (max x y)) := by
  have e : (if y > x then y else x) = max x y := by rw [Int.max_def]; split <;> split <;> omega
  simp [Builtin.max_, Builtin.max2, e]
@[go_sem] theorem min_ints (ats : Array TypeId) (ty : TypeId) (x y : Int) : Builtin.min_ ats ty #[.int .i64 x, .int .i64 y] = pure (.int .i64 (min x y)) := by
  have e : (if y < x then y else x) = min x y := by rw [Int.min_def]; split <;> split <;> omega
  simp [Builtin.min_, Builtin.min2, e]
theorem bq1 (B : Nat) (w : World) : Below B w w := Below.refl B w
theorem bq2 {B : Nat} {a w : World} (h : Below B a w) (k : B ≤ w.heap.size) (o : Obj) : Below B a (w.alloc o) := Below.alloc h k o
theorem bq3 {B : Nat} {a w : World} (h : Below B a w) {p : Addr} (k : B ≤ p.block) (u : Value) : Below B a (w.setCell p u) := Below.setCell h k u
theorem bq4 {B : Nat} {a w : World} (h : Below B a w) : Below B a w.drew := Below.drew h
theorem bq5 {B : Nat} {a w : World} (h : Below B a w) (n : Nat) : Below B a (w.drewN n) := below_drewN h n
theorem wz1 (w : World) (o : Obj) : (w.alloc o).heap.size = w.heap.size + 1 := World.size_alloc w o
theorem wz2 (w : World) (a : Addr) (v : Value) : (w.setCell a v).heap.size = w.heap.size := World.size_setCell w a v
theorem wz3 (w : World) : w.drew.heap.size = w.heap.size := World.size_drew w
theorem wz4 (w : World) (n : Nat) : (w.drewN n).heap = w.heap := World.heap_drewN w n
theorem wz5 {α : Type _} (l : List α) (i : Nat) (a : α) : l.toArray.setIfInBounds i a = (l.set i a).toArray := List.setIfInBounds_toArray l i a
theorem wz6 {α : Type _} {x : α} {xs : List α} {a : α} : (x :: xs).set 0 a = a :: xs := List.set_cons_zero
theorem wz7 {α : Type _} {x : α} {xs : List α} {i : Nat} {a : α} : (x :: xs).set (i + 1) a = x :: xs.set i a := List.set_cons_succ
theorem gr {B : Nat} {w v : World} (h : Below B w v := by repeat' (first | (with_reducible first | exact bq1 _ _ | assumption | refine bq2 ?_ ?_ _ | refine bq3 ?_ ?_ _ | refine bq4 ?_ | refine bq5 ?_ _) | (apply bthen2; (with_reducible assumption)) | go_size)) : Below B w v := h
theorem qa8 {B : Nat} {w v : World} (h : Below B w v := by (repeat' (first | (with_reducible first | exact bq1 _ _ | assumption | refine bq2 ?_ ?_ _ | refine bq3 ?_ ?_ _ | refine bq4 ?_ | refine bq5 ?_ _) | (refine bthenG (by with_reducible assumption) ?_ ?_ ?_) | (refine bthen3 (by with_reducible assumption) ?_ ?_) | omega | (simp; done) | (simp; omega)))) : Below B w v := h
end Go.Proofs.YtjgdajeoeagggaaGreat
