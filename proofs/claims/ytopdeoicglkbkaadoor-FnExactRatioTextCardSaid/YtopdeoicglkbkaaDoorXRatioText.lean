/-
  For every input the law FnExactRatioText returns true, and each argument reads behind the call as it read before; the listed tables start as the program text lays them (the card ties them). The project part beside the seat is a pruned copy.
-/
import Derived.Test.YtopdeoicglkbkaaDoorLawRT
import Derived.Test.YtopdeoicglkbkaaDoorRows
import Derived.Test.YtopdeoicglkbkaaDoorCards
import Derived.Test.YtopdeoicglkbkaaDoorTie
import Derived.WalkKit
import Derived.ProofKit
import Derived.OpenShut
import Derived.ShutString
import Derived.ChangeOld
import Derived.Below
import Derived.Lib.SmallJoins
import Derived.Deep.Strs
import Derived.Deep.DeepHandedRow
import Derived.Lib.LaidTab
import Derived.Lib.AppendIntMem
import Derived.Stop.LaidErr
import Derived.LaidMore
namespace Go.Proofs.YtopdeoicglkbkaaDoor.lawFnExactRatioText
open Go.ChangeShapes Go.WideShapes Go.ChangeAt Go.RowKit Go.Joins
open Go.ChangeMaps (open_string shut_string)

theorem own : ownKnob Tryd.prog.godebug = none := by kernel_rfl
theorem laidOut : laidOutB Tryd.prog = true := by kernel_rfl
theorem cells33 : Tryd.prog.cellsOf 33 = 4 := by kernel_rfl
theorem gTab : Tryd.prog.globalNamed "internal/strconv.uint64pow10" = some 0 := by kernel_rfl
theorem gTabType : (Tryd.prog.globals[0]?).map (·.type) = some 87 := by kernel_rfl
theorem cellsTab : Tryd.prog.cellsOf 87 = 20 := by kernel_rfl
theorem cellsEl : Tryd.prog.cellsOf 76 = 1 := by kernel_rfl
/-- What the list gives: the table of powers. -/
theorem table {W : World} (h : laidMetH Tryd.prog Rows.fnExactRatioTextRow.laid W) : Lib.TabIs Tryd.prog W "internal/strconv.uint64pow10" .u64 Lib.pow10Tab := by
  rw [MakeChecks.laidMetH_plain _ _ _ (by kernel_rfl)] at h
  exact Lib.tabIs_of_head (rest := []) gTab gTabType Tryd.underlying87 Tryd.underlying76 cellsEl cellsTab (laidMet.tail (laidMet.tail (h)))
theorem contract (H : Type) (enc : TypeId × Value → H) (W : World) (base : Nat) (args : Array Value) (ds gs : List (DataW H)) (before : List MemPlace)
    (hval0 : ∀ (j : Nat) t v, Tryd.f4.params[j]? = some t → args[j]? = some v → Value.okWide Tryd.prog W .any base t v)
    (hW : DataW.Whole enc Tryd.prog Tryd.f4.params.toList Rows.fnExactRatioTextSpec.vars false W args.toList ds gs before) (hL : laidMetH Tryd.prog Rows.fnExactRatioTextRow.laid W) :
    Calls Tryd.prog 4 args W fun e W' => ∃ v, e = .returned v ∧ Rows.fnExactRatioTextSpec.post enc Tryd.prog Tryd.f4 false true false false W args v W' := by
  have hval : ∀ (j : Nat) t v, Tryd.f4.params[j]? = some t → args[j]? = some v → Value.okWide Tryd.prog W .any base t v := hval0
  have hW' := hW
  obtain ⟨p, q, hA0, hV, rfl, hfz, hnd⟩ := hW
  have hA : DataW.TrodAll enc Tryd.prog W 0 (fun _ => true) true Tryd.f4.params.toList args.toList ds p := hA0
  rw [Tryd.params4] at hA hval
  obtain ⟨v0, vs0, d0, ds0, p0, q0, hargs, rfl, rfl, h0, r0⟩ := trodAll_cons hA
  obtain ⟨rfl, rfl, rfl⟩ := trodAll_nil r0
  obtain rfl : args = #[v0] := by cases args; simp_all
  obtain ⟨rfl, rfl⟩ := trodVars_none hV
  have k0 := h0
  have lt0 : ∀ x ∈ p0, x.block < W.heap.size := by obtain ⟨m, hm⟩ := k0; exact DataW.trod_lt m _ _ _ hm
  have cellsB0 : Tryd.prog.cellsOf 4 = 1 := by kernel_rfl
  have cellsS0 : Tryd.prog.cellsOf 22 = 1 := by kernel_rfl
  have cellsW0 : Tryd.prog.cellsOf 24 = 2 := by kernel_rfl
  obtain ⟨cs0, rfl, hsz0⟩ := okWide_struct Tryd.underlying33 (hval 0 33 v0 rfl rfl)
  obtain ⟨c00, c01, c02, c03, rfl⟩ := array4 (hsz0.trans cells33)
  obtain ⟨fu0, hf0⟩ := h0
  obtain ⟨y00, y01, n0, hx0, _, qa0, qb0⟩ := trod_struct2 Tryd.underlying33 hf0
  have qc0 : DataW.trod enc Tryd.prog W 0 (fun _ => true) true n0 24 [c00, c01] = some y00 := by simpa [cellsW0, Value.cells] using qa0
  have qd0 : DataW.trod enc Tryd.prog W 0 (fun _ => true) true n0 24 [c02, c03] = some y01 := by simpa [cellsW0, Value.cells] using qb0
  obtain ⟨u00_0, u10_0, m0_0, e0_0, _, r00_0, r10_0⟩ := trod_struct2 Tryd.underlying24 qc0
  obtain ⟨ng0_0, eb0_0, _⟩ := DataW.trod_bool Tryd.underlying4 r00_0
  simp [cellsB0] at eb0_0
  subst eb0_0
  have t10_0 : DataW.trod enc Tryd.prog W 0 (fun _ => true) true m0_0 22 [c01] = some u10_0 := by simpa [cellsS0] using r10_0
  obtain ⟨sa0_0, sl0_0, sc0_0, xs0_0, ce0_0, hi0_0⟩ : ∃ a len cap xs, c01 = .slice a len cap ∧ Ints W (.slice a len cap) xs := by
    rcases open_ints Tryd.underlying22 Tryd.underlying3 (by kernel_rfl) t10_0 with ⟨hcs, _⟩ | ⟨x, l, c, zs, hcs, _, hl, hm, hz, _, hcell, hwz⟩
    · simp at hcs
      exact ⟨none, 0, 0, [], hcs, .inl ⟨none, 0, rfl, rfl⟩⟩
    · simp at hcs
      exact ⟨some x, l, c, _, hcs, Ints.of_open hl hm (by simpa using hz) hcell⟩
  subst ce0_0
  obtain ⟨u00_1, u10_1, m0_1, e0_1, _, r00_1, r10_1⟩ := trod_struct2 Tryd.underlying24 qd0
  obtain ⟨ng0_1, eb0_1, _⟩ := DataW.trod_bool Tryd.underlying4 r00_1
  simp [cellsB0] at eb0_1
  subst eb0_1
  have t10_1 : DataW.trod enc Tryd.prog W 0 (fun _ => true) true m0_1 22 [c03] = some u10_1 := by simpa [cellsS0] using r10_1
  obtain ⟨sa0_1, sl0_1, sc0_1, xs0_1, ce0_1, hi0_1⟩ : ∃ a len cap xs, c03 = .slice a len cap ∧ Ints W (.slice a len cap) xs := by
    rcases open_ints Tryd.underlying22 Tryd.underlying3 (by kernel_rfl) t10_1 with ⟨hcs, _⟩ | ⟨x, l, c, zs, hcs, _, hl, hm, hz, _, hcell, hwz⟩
    · simp at hcs
      exact ⟨none, 0, 0, [], hcs, .inl ⟨none, 0, rfl, rfl⟩⟩
    · simp at hcs
      exact ⟨some x, l, c, _, hcs, Ints.of_open hl hm (by simpa using hz) hcell⟩
  subst ce0_1
  clear hA0 hval0
  refine (walk_FnExactRatioText ng0_0 sa0_0 sl0_0 sc0_0 xs0_0 ng0_1 sa0_1 sl0_1 sc0_1 xs0_1 W (Lib.tabBelow_of_tabIs (table hL)) hi0_0 hi0_1).mono fun e W' ⟨he, bel⟩ => ?_
  subst he
  exact ⟨_, rfl, _, _, _, [], _, [], hW', trodAll_mk1 (shut_bool Tryd.underlying4 _), (trodAll_cons_mk (Below.trod laidOut (by kernel_rfl) (of_decide_eq_true (by kernel_rfl)) k0 bel lt0) trodAll_mk0), rfl, bel.frame _, fun h => by cases h⟩
/-- A start for the witness: the tables hold what their initialisers lay. -/
noncomputable def laidWorld (os : Os) : World :=
  { World.holding Tryd.prog os ⟨#[], #[], []⟩ with heap := ((((World.holding Tryd.prog os ⟨#[], #[], []⟩).heap.modify 2 fun | .cells _ t frozen => .cells #[.int .u8 0, .int .u8 1, .int .u8 28, .int .u8 2, .int .u8 29, .int .u8 14, .int .u8 24, .int .u8 3, .int .u8 30, .int .u8 22, .int .u8 20, .int .u8 15, .int .u8 25, .int .u8 17, .int .u8 4, .int .u8 8, .int .u8 31, .int .u8 27, .int .u8 13, .int .u8 23, .int .u8 21, .int .u8 19, .int .u8 16, .int .u8 7, .int .u8 26, .int .u8 12, .int .u8 18, .int .u8 6, .int .u8 11, .int .u8 5, .int .u8 10, .int .u8 9] t frozen | o => o).modify 3 fun | .cells _ t frozen => .cells #[.int .u8 0, .int .u8 1, .int .u8 56, .int .u8 2, .int .u8 57, .int .u8 49, .int .u8 28, .int .u8 3, .int .u8 61, .int .u8 58, .int .u8 42, .int .u8 50, .int .u8 38, .int .u8 29, .int .u8 17, .int .u8 4, .int .u8 62, .int .u8 47, .int .u8 59, .int .u8 36, .int .u8 45, .int .u8 43, .int .u8 51, .int .u8 22, .int .u8 53, .int .u8 39, .int .u8 33, .int .u8 30, .int .u8 24, .int .u8 18, .int .u8 12, .int .u8 5, .int .u8 63, .int .u8 55, .int .u8 48, .int .u8 27, .int .u8 60, .int .u8 41, .int .u8 37, .int .u8 16, .int .u8 46, .int .u8 35, .int .u8 44, .int .u8 21, .int .u8 52, .int .u8 32, .int .u8 23, .int .u8 11, .int .u8 54, .int .u8 26, .int .u8 40, .int .u8 15, .int .u8 34, .int .u8 20, .int .u8 31, .int .u8 10, .int .u8 25, .int .u8 14, .int .u8 19, .int .u8 9, .int .u8 13, .int .u8 8, .int .u8 7, .int .u8 6] t frozen | o => o).modify 0 fun | .cells _ t frozen => .cells #[.int .u64 1, .int .u64 10, .int .u64 100, .int .u64 1000, .int .u64 10000, .int .u64 100000, .int .u64 1000000, .int .u64 10000000, .int .u64 100000000, .int .u64 1000000000, .int .u64 10000000000, .int .u64 100000000000, .int .u64 1000000000000, .int .u64 10000000000000, .int .u64 100000000000000, .int .u64 1000000000000000, .int .u64 10000000000000000, .int .u64 100000000000000000, .int .u64 1000000000000000000, .int .u64 10000000000000000000] t frozen | o => o) }
theorem laid_met (os : Os) : laidMet Tryd.prog Rows.fnExactRatioTextRow.laid ((laidWorld os).forCall (fun _ _ => 0) ⟨#[], #[.agg #[.bool false, .slice none 0 0, .bool false, .slice none 0 0]], []⟩).memory :=
  laidMet_of_run' 8 (by kernel_rfl) (by kernel_rfl)
theorem reads (os : Os) {H : Type} (enc : TypeId × Value → H) : ∃ ds places, DataW.whole enc Tryd.prog ((laidWorld os).forCall (fun _ _ => 0) ⟨#[], #[.agg #[.bool false, .slice none 0 0, .bool false, .slice none 0 0]], []⟩).memory Tryd.f4.params.toList Rows.fnExactRatioTextSpec.vars false (#[.agg #[.bool false, .slice none 0 0, .bool false, .slice none 0 0]] : Array Value).toList 8 = some (ds, [], places) :=
  ⟨[.agg [.agg [.lit (.bool false), .nil], .agg [.lit (.bool false), .nil]]], [], by kernel_rfl⟩
set_option maxRecDepth 100000 in
theorem lifted (os : Os) (started : os.Started) (H : Type) (enc : TypeId × Value → H) (F : Stop.Interp) :
    ReturnsInHanded {} Tryd.checked os 4 .any ((OpenSpec.ofChange Rows.fnExactRatioTextSpec).preRow enc Tryd.prog Tryd.f4 Rows.fnExactRatioTextRow.domain false Rows.fnExactRatioTextRow.laid) (((OpenSpec.ofChange Rows.fnExactRatioTextSpec).at F).post enc Tryd.prog Tryd.f4 false true false false) := by
  obtain ⟨ds0, places, hx⟩ := reads os enc
  refine returnsInHanded_of_row (C := Tryd.checked) (s := OpenSpec.ofChange Rows.fnExactRatioTextSpec) own started (by kernel_rfl) Tryd.func4
    (witness_row_at (enc := enc) (C := Tryd.checked) false (laidWorld os) #[.agg #[.bool false, .slice none 0 0, .bool false, .slice none 0 0]] rfl (by kernel_rfl) (by kernel_rfl) (by kernel_rfl)
      (OpenSpec.preRow_of_cond 8 hx (by kernel_rfl) (fun k hk => by cases hk) (by kernel_rfl) (laid_met os))) ?_
  intro W base args ds gs before hval hW _ _ _ hL _ _
  exact contract H enc W base args ds gs before hval hW hL
theorem said : Rows.FnExactRatioTextSaid :=
  OpenClaim.holds_of_cond 4 Tryd.f4 rfl rfl rfl rfl rfl rfl rfl ⟨rfl, rfl, rfl, rfl, rfl⟩ rfl rfl rfl rfl rfl (by kernel_rfl) Tryd.func4 (by kernel_rfl)
    (of_decide_eq_true (by kernel_rfl)) (by unfold Func.isWrapper; first | (rw [if_pos (by decide +kernel)]; kernel_rfl) | (rw [if_neg (by decide +kernel)]; exact ⟨rfl, rfl⟩))
    (fun os started H enc _ F => by rw [OpenClaim.pre_eq_preRow]; exact lifted os started H enc F)
theorem plain (f : FuncId) (fn : Func) (hf : Tryd.pinned.checked.prog.funcNamed "loop.example/g01004/laws.FnExactRatioText" = some f) (hfn : Tryd.pinned.checked.prog.funcs[f]? = some fn) :
    false = Tryd.pinned.checked.prog.looks [] ∧ ∀ (j : Nat) t, fn.params[j]? = some t → Tryd.pinned.checked.prog.wantsStandIn t = false := by
  obtain rfl : f = 4 := Option.some.inj ((show Tryd.prog.funcNamed "loop.example/g01004/laws.FnExactRatioText" = some 4 by kernel_rfl).symm.trans hf) |>.symm
  obtain rfl : fn = Tryd.f4 := (Option.some.inj (Tryd.func4.symm.trans hfn)).symm
  refine ⟨by kernel_rfl, fun j t ht => ?_⟩
  rw [Tryd.params4] at ht
  have hm : t ∈ [33] := by simpa using Array.mem_of_getElem? ht
  have hall : ([33].all fun u => !Tryd.prog.wantsStandIn u) = true := by kernel_rfl
  exact (show Tryd.prog.wantsStandIn t = false by simpa using List.all_eq_true.1 hall t hm)
/-- The given statement. -/
theorem proved : Rows.FnExactRatioTextCardSaid :=
  Claim7.holds_tied_plain_at .later [] _ _ _ _ said (fun _ h => by cases h) (by kernel_rfl) (fun _ h => by cases h) fnExactRatioText_row_tie rfl ⟨rfl, rfl⟩ (by kernel_rfl) rfl plain (by kernel_rfl)
#print axioms proved
end Go.Proofs.YtopdeoicglkbkaaDoor.lawFnExactRatioText
