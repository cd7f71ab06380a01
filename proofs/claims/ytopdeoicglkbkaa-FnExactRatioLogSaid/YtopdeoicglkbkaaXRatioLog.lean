/-
  For every input the law FnExactRatioLog returns true, and each argument reads behind the call as it read before. No condition beyond those of the given row.
-/
import Derived.Test.YtopdeoicglkbkaaLawRL
import Derived.Test.YtopdeoicglkbkaaRows
import Derived.WalkKit
import Derived.ProofKit
import Derived.OpenShut
import Derived.ShutString
import Derived.ChangeOld
import Derived.Below
import Derived.Lib.SmallJoins
import Derived.Deep.Strs
namespace Go.Proofs.Ytopdeoicglkbkaa.lawFnExactRatioLog
open Go.ChangeShapes Go.WideShapes Go.ChangeAt Go.RowKit Go.Joins
open Go.ChangeMaps (open_string shut_string)

theorem own : ownKnob Try.prog.godebug = none := by kernel_rfl
theorem laidOut : laidOutB Try.prog = true := by kernel_rfl
theorem cells46 : Try.prog.cellsOf 46 = 2 := by kernel_rfl
set_option maxRecDepth 100000 in
theorem lifted (os : Os) (started : os.Started) (H : Type) (enc : TypeId × Value → H) :
    ReturnsInHanded {} Try.checked os 10 .any (Rows.fnExactRatioLogSpec.pre6 enc Try.prog Try.f10 Rows.fnExactRatioLogRow.domain false) (Rows.fnExactRatioLogSpec.post enc Try.prog Try.f10 false true false false) := by
  refine returnsInHanded_of_change (C := Try.checked) own started (by kernel_rfl) Try.func10
    (ChangeSpec.witness6 (enc := enc) (C := Try.checked) false ⟨#[], #[.agg #[.bool false, .slice none 0 0], .agg #[.bool false, .slice none 0 0], .int .i64 0], []⟩ 8 (by kernel_rfl) (by kernel_rfl) (by kernel_rfl) (by kernel_rfl)) ?_
  intro W base args ds gs before hval0 hW hcnd _
  have hval : ∀ (j : Nat) t v, Try.f10.params[j]? = some t → args[j]? = some v → Value.okWide Try.prog W .any base t v := hval0
  have hW' := hW
  obtain ⟨p, q, hA0, hV, rfl, hfz, hnd⟩ := hW
  have hA : DataW.TrodAll enc Try.prog W 0 (fun _ => true) true Try.f10.params.toList args.toList ds p := hA0
  rw [Try.params10] at hA hval
  obtain ⟨v0, vs0, d0, ds0, p0, q0, hargs, rfl, rfl, h0, r0⟩ := trodAll_cons hA
  obtain ⟨v1, vs1, d1, ds1, p1, q1, rfl, rfl, rfl, h1, r1⟩ := trodAll_cons r0
  obtain ⟨v2, vs2, d2, ds2, p2, q2, rfl, rfl, rfl, h2, r2⟩ := trodAll_cons r1
  obtain ⟨rfl, rfl, rfl⟩ := trodAll_nil r2
  obtain rfl : args = #[v0, v1, v2] := by cases args; simp_all
  obtain ⟨rfl, rfl⟩ := trodVars_none hV
  have k0 := h0
  have lt0 : ∀ x ∈ p0, x.block < W.heap.size := by obtain ⟨m, hm⟩ := k0; exact DataW.trod_lt m _ _ _ hm
  have cellsB0 : Try.prog.cellsOf 4 = 1 := by kernel_rfl
  have cellsS0 : Try.prog.cellsOf 24 = 1 := by kernel_rfl
  have cellsW0 : Try.prog.cellsOf 46 = 2 := by kernel_rfl
  obtain ⟨cs0, rfl, hsz0⟩ := okWide_struct Try.underlying46 (hval 0 46 v0 rfl rfl)
  obtain ⟨c00, c01, rfl⟩ := array2 (hsz0.trans cells46)
  obtain ⟨fu0, hf0⟩ := h0
  have q0 : DataW.trod enc Try.prog W 0 (fun _ => true) true fu0 46 [c00, c01] = some (d0, p0) := by simpa [Value.cells] using hf0
  obtain ⟨u00_0, u10_0, m0_0, e0_0, _, r00_0, r10_0⟩ := trod_struct2 Try.underlying46 q0
  obtain ⟨ng0_0, eb0_0, _⟩ := DataW.trod_bool Try.underlying4 r00_0
  simp [cellsB0] at eb0_0
  subst eb0_0
  have t10_0 : DataW.trod enc Try.prog W 0 (fun _ => true) true m0_0 24 [c01] = some u10_0 := by simpa [cellsS0] using r10_0
  obtain ⟨sa0_0, sl0_0, sc0_0, xs0_0, ce0_0, hi0_0⟩ : ∃ a len cap xs, c01 = .slice a len cap ∧ Ints W (.slice a len cap) xs := by
    rcases open_ints Try.underlying24 Try.underlying3 (by kernel_rfl) t10_0 with ⟨hcs, _⟩ | ⟨x, l, c, zs, hcs, _, hl, hm, hz, _, hcell, hwz⟩
    · simp at hcs
      exact ⟨none, 0, 0, [], hcs, .inl ⟨none, 0, rfl, rfl⟩⟩
    · simp at hcs
      exact ⟨some x, l, c, _, hcs, Ints.of_open hl hm (by simpa using hz) hcell⟩
  subst ce0_0
  have k1 := h1
  have lt1 : ∀ x ∈ p1, x.block < W.heap.size := by obtain ⟨m, hm⟩ := k1; exact DataW.trod_lt m _ _ _ hm
  have cellsB1 : Try.prog.cellsOf 4 = 1 := by kernel_rfl
  have cellsS1 : Try.prog.cellsOf 24 = 1 := by kernel_rfl
  have cellsW1 : Try.prog.cellsOf 46 = 2 := by kernel_rfl
  obtain ⟨cs1, rfl, hsz1⟩ := okWide_struct Try.underlying46 (hval 1 46 v1 rfl rfl)
  obtain ⟨c10, c11, rfl⟩ := array2 (hsz1.trans cells46)
  obtain ⟨fu1, hf1⟩ := h1
  have q1 : DataW.trod enc Try.prog W 0 (fun _ => true) true fu1 46 [c10, c11] = some (d1, p1) := by simpa [Value.cells] using hf1
  obtain ⟨u01_0, u11_0, m1_0, e1_0, _, r01_0, r11_0⟩ := trod_struct2 Try.underlying46 q1
  obtain ⟨ng1_0, eb1_0, _⟩ := DataW.trod_bool Try.underlying4 r01_0
  simp [cellsB1] at eb1_0
  subst eb1_0
  have t11_0 : DataW.trod enc Try.prog W 0 (fun _ => true) true m1_0 24 [c11] = some u11_0 := by simpa [cellsS1] using r11_0
  obtain ⟨sa1_0, sl1_0, sc1_0, xs1_0, ce1_0, hi1_0⟩ : ∃ a len cap xs, c11 = .slice a len cap ∧ Ints W (.slice a len cap) xs := by
    rcases open_ints Try.underlying24 Try.underlying3 (by kernel_rfl) t11_0 with ⟨hcs, _⟩ | ⟨x, l, c, zs, hcs, _, hl, hm, hz, _, hcell, hwz⟩
    · simp at hcs
      exact ⟨none, 0, 0, [], hcs, .inl ⟨none, 0, rfl, rfl⟩⟩
    · simp at hcs
      exact ⟨some x, l, c, _, hcs, Ints.of_open hl hm (by simpa using hz) hcell⟩
  subst ce1_0
  have k2 := h2
  have lt2 : ∀ x ∈ p2, x.block < W.heap.size := by obtain ⟨m, hm⟩ := k2; exact DataW.trod_lt m _ _ _ hm
  obtain ⟨a2, rfl, rfl, rfl, w2⟩ := open_int Try.underlying3 (hval 2 3 v2 rfl rfl) h2
  clear hA0 hval0
  refine (walk_FnExactRatioLog ng0_0 sa0_0 sl0_0 sc0_0 xs0_0 ng1_0 sa1_0 sl1_0 sc1_0 xs1_0 a2 W hi0_0 hi1_0 w2).mono fun e W' ⟨he, bel⟩ => ?_
  subst he
  exact ⟨_, rfl, _, _, _, [], _, [], hW', trodAll_mk1 (shut_bool Try.underlying4 _), (trodAll_cons_mk (Below.trod laidOut (by kernel_rfl) (of_decide_eq_true (by kernel_rfl)) k0 bel lt0) (trodAll_cons_mk (Below.trod laidOut (by kernel_rfl) (of_decide_eq_true (by kernel_rfl)) k1 bel lt1) (trodAll_cons_mk (Below.trod laidOut (by kernel_rfl) (of_decide_eq_true (by kernel_rfl)) k2 bel lt2) trodAll_mk0))), rfl, bel.frame _, fun h => by cases h⟩

theorem over : Rows.fnExactRatioLogRow.holds Try.pinned (OpenSpec.ofChange Rows.fnExactRatioLogSpec) :=
  OpenClaim.holds_of_wide 10 Try.f10 rfl rfl rfl rfl rfl rfl rfl ⟨rfl, rfl, rfl, rfl, rfl⟩ rfl rfl rfl rfl rfl (by kernel_rfl) Try.func10 (by kernel_rfl)
    (of_decide_eq_true (by kernel_rfl)) (by unfold Func.isWrapper; first | (rw [if_pos (by decide +kernel)]; kernel_rfl) | (rw [if_neg (by decide +kernel)]; exact ⟨rfl, rfl⟩))
    (fun os started H enc _ => lifted os started H enc)

/-- The given statement. -/
theorem proved : Rows.FnExactRatioLogSaid := over
#print axioms proved
end Go.Proofs.Ytopdeoicglkbkaa.lawFnExactRatioLog
