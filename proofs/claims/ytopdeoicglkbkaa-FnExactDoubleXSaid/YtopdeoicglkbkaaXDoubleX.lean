/-
  For every input the law FnExactDoubleX returns true, and each argument reads behind the call as it read before. No condition beyond those of the given row.
-/
import Derived.Test.YtopdeoicglkbkaaLawDX
import Derived.Test.YtopdeoicglkbkaaRows
import Derived.WalkKit
import Derived.ProofKit
import Derived.OpenShut
import Derived.ShutString
import Derived.ChangeOld
import Derived.Below
import Derived.Lib.SmallJoins
import Derived.Deep.Strs
namespace Go.Proofs.Ytopdeoicglkbkaa.lawFnExactDoubleX
open Go.ChangeShapes Go.WideShapes Go.ChangeAt Go.RowKit Go.Joins
open Go.ChangeMaps (open_string shut_string)

theorem own : ownKnob Try.prog.godebug = none := by kernel_rfl
theorem laidOut : laidOutB Try.prog = true := by kernel_rfl
theorem cells37 : Try.prog.cellsOf 37 = 2 := by kernel_rfl
theorem cells55 : Try.prog.cellsOf 55 = 4 := by kernel_rfl
set_option maxRecDepth 100000 in
theorem lifted (os : Os) (started : os.Started) (H : Type) (enc : TypeId × Value → H) :
    ReturnsInHanded {} Try.checked os 12 .any (Rows.fnExactDoubleXSpec.pre6 enc Try.prog Try.f12 Rows.fnExactDoubleXRow.domain false) (Rows.fnExactDoubleXSpec.post enc Try.prog Try.f12 false true false false) := by
  refine returnsInHanded_of_change (C := Try.checked) own started (by kernel_rfl) Try.func12
    (ChangeSpec.witness6 (enc := enc) (C := Try.checked) false ⟨#[], #[.agg #[.int .i64 0, .int .i64 0], .agg #[.bool false, .slice none 0 0, .bool false, .slice none 0 0]], []⟩ 8 (by kernel_rfl) (by kernel_rfl) (by kernel_rfl) (by kernel_rfl)) ?_
  intro W base args ds gs before hval0 hW hcnd _
  have hval : ∀ (j : Nat) t v, Try.f12.params[j]? = some t → args[j]? = some v → Value.okWide Try.prog W .any base t v := hval0
  have hW' := hW
  obtain ⟨p, q, hA0, hV, rfl, hfz, hnd⟩ := hW
  have hA : DataW.TrodAll enc Try.prog W 0 (fun _ => true) true Try.f12.params.toList args.toList ds p := hA0
  rw [Try.params12] at hA hval
  obtain ⟨v0, vs0, d0, ds0, p0, q0, hargs, rfl, rfl, h0, r0⟩ := trodAll_cons hA
  obtain ⟨v1, vs1, d1, ds1, p1, q1, rfl, rfl, rfl, h1, r1⟩ := trodAll_cons r0
  obtain ⟨rfl, rfl, rfl⟩ := trodAll_nil r1
  obtain rfl : args = #[v0, v1] := by cases args; simp_all
  obtain ⟨rfl, rfl⟩ := trodVars_none hV
  have k0 := h0
  have lt0 : ∀ x ∈ p0, x.block < W.heap.size := by obtain ⟨m, hm⟩ := k0; exact DataW.trod_lt m _ _ _ hm
  obtain ⟨c0_0, c0_1, y0_0, y0_1, m0, rfl, rfl, rfl, hy0_0, hy0_1⟩ := open_agg2 Try.underlying37 (by kernel_rfl) cells37 (hval 0 37 v0 rfl rfl) h0
  obtain ⟨a0_0, e0_0, rfl, w0_0⟩ := DataW.trod_int Try.underlying3 hy0_0
  simp at e0_0
  subst e0_0
  obtain ⟨a0_1, e0_1, rfl, w0_1⟩ := DataW.trod_int Try.underlying3 hy0_1
  simp at e0_1
  subst e0_1
  have k1 := h1
  have lt1 : ∀ x ∈ p1, x.block < W.heap.size := by obtain ⟨m, hm⟩ := k1; exact DataW.trod_lt m _ _ _ hm
  have cellsB1 : Try.prog.cellsOf 4 = 1 := by kernel_rfl
  have cellsS1 : Try.prog.cellsOf 24 = 1 := by kernel_rfl
  have cellsW1 : Try.prog.cellsOf 46 = 2 := by kernel_rfl
  obtain ⟨cs1, rfl, hsz1⟩ := okWide_struct Try.underlying55 (hval 1 55 v1 rfl rfl)
  obtain ⟨c10, c11, c12, c13, rfl⟩ := array4 (hsz1.trans cells55)
  obtain ⟨fu1, hf1⟩ := h1
  obtain ⟨y10, y11, n1, hx1, _, qa1, qb1⟩ := trod_struct2 Try.underlying55 hf1
  have qc1 : DataW.trod enc Try.prog W 0 (fun _ => true) true n1 46 [c10, c11] = some y10 := by simpa [cellsW1, Value.cells] using qa1
  have qd1 : DataW.trod enc Try.prog W 0 (fun _ => true) true n1 46 [c12, c13] = some y11 := by simpa [cellsW1, Value.cells] using qb1
  obtain ⟨u01_0, u11_0, m1_0, e1_0, _, r01_0, r11_0⟩ := trod_struct2 Try.underlying46 qc1
  obtain ⟨ng1_0, eb1_0, _⟩ := DataW.trod_bool Try.underlying4 r01_0
  simp [cellsB1] at eb1_0
  subst eb1_0
  have t11_0 : DataW.trod enc Try.prog W 0 (fun _ => true) true m1_0 24 [c11] = some u11_0 := by simpa [cellsS1] using r11_0
  obtain ⟨sa1_0, sl1_0, sc1_0, xs1_0, ce1_0, hi1_0⟩ : ∃ a len cap xs, c11 = .slice a len cap ∧ Ints W (.slice a len cap) xs := by
    rcases open_ints Try.underlying24 Try.underlying3 (by kernel_rfl) t11_0 with ⟨hcs, _⟩ | ⟨x, l, c, zs, hcs, _, hl, hm, hz, _, hcell, hwz⟩
    · simp at hcs
      exact ⟨none, 0, 0, [], hcs, .inl ⟨none, 0, rfl, rfl⟩⟩
    · simp at hcs
      exact ⟨some x, l, c, _, hcs, Ints.of_open hl hm (by simpa using hz) hcell⟩
  subst ce1_0
  obtain ⟨u01_1, u11_1, m1_1, e1_1, _, r01_1, r11_1⟩ := trod_struct2 Try.underlying46 qd1
  obtain ⟨ng1_1, eb1_1, _⟩ := DataW.trod_bool Try.underlying4 r01_1
  simp [cellsB1] at eb1_1
  subst eb1_1
  have t11_1 : DataW.trod enc Try.prog W 0 (fun _ => true) true m1_1 24 [c13] = some u11_1 := by simpa [cellsS1] using r11_1
  obtain ⟨sa1_1, sl1_1, sc1_1, xs1_1, ce1_1, hi1_1⟩ : ∃ a len cap xs, c13 = .slice a len cap ∧ Ints W (.slice a len cap) xs := by
    rcases open_ints Try.underlying24 Try.underlying3 (by kernel_rfl) t11_1 with ⟨hcs, _⟩ | ⟨x, l, c, zs, hcs, _, hl, hm, hz, _, hcell, hwz⟩
    · simp at hcs
      exact ⟨none, 0, 0, [], hcs, .inl ⟨none, 0, rfl, rfl⟩⟩
    · simp at hcs
      exact ⟨some x, l, c, _, hcs, Ints.of_open hl hm (by simpa using hz) hcell⟩
  subst ce1_1
  clear hA0 hval0
  refine (walk_FnExactDoubleX a0_0 a0_1 ng1_0 sa1_0 sl1_0 sc1_0 xs1_0 ng1_1 sa1_1 sl1_1 sc1_1 xs1_1 W w0_0 w0_1 hi1_0 hi1_1).mono fun e W' ⟨he, bel⟩ => ?_
  subst he
  exact ⟨_, rfl, _, _, _, [], _, [], hW', trodAll_mk1 (shut_bool Try.underlying4 _), (trodAll_cons_mk (Below.trod laidOut (by kernel_rfl) (of_decide_eq_true (by kernel_rfl)) k0 bel lt0) (trodAll_cons_mk (Below.trod laidOut (by kernel_rfl) (of_decide_eq_true (by kernel_rfl)) k1 bel lt1) trodAll_mk0)), rfl, bel.frame _, fun h => by cases h⟩

theorem over : Rows.fnExactDoubleXRow.holds Try.pinned (OpenSpec.ofChange Rows.fnExactDoubleXSpec) :=
  OpenClaim.holds_of_wide 12 Try.f12 rfl rfl rfl rfl rfl rfl rfl ⟨rfl, rfl, rfl, rfl, rfl⟩ rfl rfl rfl rfl rfl (by kernel_rfl) Try.func12 (by kernel_rfl)
    (of_decide_eq_true (by kernel_rfl)) (by unfold Func.isWrapper; first | (rw [if_pos (by decide +kernel)]; kernel_rfl) | (rw [if_neg (by decide +kernel)]; exact ⟨rfl, rfl⟩))
    (fun os started H enc _ => lifted os started H enc)

/-- The given statement. -/
theorem proved : Rows.FnExactDoubleXSaid := over
#print axioms proved
end Go.Proofs.Ytopdeoicglkbkaa.lawFnExactDoubleX
