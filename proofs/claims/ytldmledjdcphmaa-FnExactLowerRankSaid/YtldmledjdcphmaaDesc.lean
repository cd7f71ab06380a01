import Derived.Test.YtldmledjdcphmaaSqD
import Derived.Test.YtldmledjdcphmaaFracB
import Derived.Test.YtldmledjdcphmaaMarkI
import Derived.Test.YtldmledjdcphmaaGrp
set_option linter.unusedSimpArgs false
set_option linter.unusedVariables false
namespace Go.Proofs.Ytldmledjdcphmaa
open Go.RowKit
/-! ### descents: sides, divisors, quartics -/

def sA (a b : Int) (d : Bool) : Int := if d then -2 * a else a
def sB (a b : Int) (d : Bool) : Int := if d then a * a - 4 * b else b
theorem isT_rng {a b : Int} (h : isT a b = true) : (-300 ≤ a ∧ a ≤ 300) ∧ (-300 ≤ b ∧ b ≤ 300) ∧ b ≠ 0 ∧ a * a ≠ 4 * b := by
  unfold isT at h
  simp only [Bool.and_eq_true, inB_iff, bne_iff_ne, ne_eq] at h
  obtain ⟨⟨⟨h1, h2⟩, h3⟩, h4⟩ := h
  refine ⟨h1, h2, h3, fun e => h4 (by rw [e])⟩
theorem sq_300 {a : Int} (h : -300 ≤ a ∧ a ≤ 300) : 0 ≤ a * a ∧ a * a ≤ 90000 := by
  have e : a * a = (a.natAbs : Int) * (a.natAbs : Int) := (Int.natAbs_mul_self' a).symm
  have h1 := Int.mul_le_mul (show (a.natAbs : Int) ≤ 300 by omega) (show (a.natAbs : Int) ≤ 300 by omega) (by omega) (by omega)
  rw [e]
  refine ⟨Int.mul_nonneg (by omega) (by omega), by omega⟩
theorem sB_rng {a b : Int} {d : Bool} (h : isT a b = true) : sB a b d ≠ 0 ∧ (sB a b d).natAbs ≤ 91200 := by
  obtain ⟨h1, h2, h3, h4⟩ := isT_rng h
  have := sq_300 h1
  unfold sB
  split <;> omega
theorem sA_rng {a b : Int} {d : Bool} (h : isT a b = true) : (sA a b d).natAbs ≤ 600 := by
  obtain ⟨h1, -⟩ := isT_rng h
  unfold sA
  split <;> omega

theorem side_any (a b : Int) (d : Bool) (h : isT a b = true) (w : World) : Calls Try.prog 70 #[.agg #[.int .i64 a, .int .i64 b], .bool d] w (Gives (.tuple #[.int .i64 (sA a b d), .int .i64 (sB a b d)]) w) := by
  obtain ⟨h1, h2, h3, h4⟩ := isT_rng h
  have hq := sq_300 h1
  have e1 : wrap64 (-2 * a) = -2 * a := win (by omega)
  have e2 : wrap64 (a * a) = a * a := win (by omega)
  have e3 : wrap64 (4 * b) = 4 * b := win (by omega)
  have e4 : wrap64 (a * a - 4 * b) = a * a - 4 * b := win (by omega)
  have E := Lib.hid (And.intro e1 (And.intro e2 (And.intro e3 e4)))
  clear h h1 h2 h3 h4 hq e1 e2 e3 e4
  cases d
  · go_enter Try.func70, Try.ntmps70
    go_wp2
    go_quiet (fail)
    go_wp2
    go_ret2
    exact gives rfl (by repeat' (first | (with_reducible exact Below.refl _ _) | (with_reducible assumption) | (with_reducible refine Below.alloc ?_ ?_ _) | (with_reducible refine Below.setCell ?_ ?_ _) | (with_reducible refine Below.drew ?_) | (with_reducible refine below_drewN ?_ _) | (apply bthen2; (with_reducible assumption)) | go_size))
  · go_enter Try.func70, Try.ntmps70
    go_wp2
    go_quiet (fail)
    go_wp2
    go_ret2
    first | exact gives rfl (by repeat' (first | (with_reducible exact Below.refl _ _) | (with_reducible assumption) | (with_reducible refine Below.alloc ?_ ?_ _) | (with_reducible refine Below.setCell ?_ ?_ _) | (with_reducible refine Below.drew ?_) | (with_reducible refine below_drewN ?_ _) | (apply bthen2; (with_reducible assumption)) | go_size)) | (refine gives ?_ (by repeat' (first | (with_reducible exact Below.refl _ _) | (with_reducible assumption) | (with_reducible refine Below.alloc ?_ ?_ _) | (with_reducible refine Below.setCell ?_ ?_ _) | (with_reducible refine Below.drew ?_) | (with_reducible refine below_drewN ?_ _) | (apply bthen2; (with_reducible assumption)) | go_size)); simp [sA, sB]; obtain ⟨e1, e2, e3, e4⟩ := E.out; rw [e1, e2, e3, e4]; exact ⟨rfl, rfl⟩)

theorem tcDual_any (a b : Int) (h : isT a b = true) (w : World) : Calls Try.prog 89 #[.agg #[.int .i64 a, .int .i64 b]] w (Gives (.tuple #[.int .i64 (-2 * a), .int .i64 (a * a - 4 * b)]) w) := by
  obtain ⟨h1, h2, h3, h4⟩ := isT_rng h
  have hq := sq_300 h1
  have e1 : wrap64 (-2 * a) = -2 * a := win (by omega)
  have e2 : wrap64 (a * a) = a * a := win (by omega)
  have e3 : wrap64 (4 * b) = 4 * b := win (by omega)
  have e4 : wrap64 (a * a - 4 * b) = a * a - 4 * b := win (by omega)
  have E := Lib.hid (And.intro e1 (And.intro e2 (And.intro e3 e4)))
  clear h h1 h2 h3 h4 hq e1 e2 e3 e4
  go_enter Try.func89, Try.ntmps89
  go_wp2
  go_quiet (fail)
  go_wp2
  go_ret2
  first | exact gives rfl (by repeat' (first | (with_reducible exact Below.refl _ _) | (with_reducible assumption) | (with_reducible refine Below.alloc ?_ ?_ _) | (with_reducible refine Below.setCell ?_ ?_ _) | (with_reducible refine Below.drew ?_) | (with_reducible refine below_drewN ?_ _) | (apply bthen2; (with_reducible assumption)) | go_size)) | (refine gives ?_ (by repeat' (first | (with_reducible exact Below.refl _ _) | (with_reducible assumption) | (with_reducible refine Below.alloc ?_ ?_ _) | (with_reducible refine Below.setCell ?_ ?_ _) | (with_reducible refine Below.drew ?_) | (with_reducible refine below_drewN ?_ _) | (apply bthen2; (with_reducible assumption)) | go_size)); simp; obtain ⟨e1, e2, e3, e4⟩ := E.out; rw [e1, e2, e3, e4]; exact ⟨rfl, rfl⟩)
theorem dsSide_any (a b : Int) (d : Bool) (h : isT a b = true) (w : World) : Calls Try.prog 68 #[.agg #[.int .i64 a, .int .i64 b], .bool d] w (Gives (.tuple #[.int .i64 (sA a b d), .int .i64 (sB a b d)]) w) := by
  have HD := Lib.hid (fun w => tcDual_any a b h w)
  cases d
  · go_enter Try.func68, Try.ntmps68
    go_wp2
    go_quiet (fail)
    go_wp2
    go_ret2
    exact gives rfl (by repeat' (first | (with_reducible exact Below.refl _ _) | (with_reducible assumption) | (with_reducible refine Below.alloc ?_ ?_ _) | (with_reducible refine Below.setCell ?_ ?_ _) | (with_reducible refine Below.drew ?_) | (with_reducible refine below_drewN ?_ _) | (apply bthen2; (with_reducible assumption)) | go_size))
  · show Calls Try.prog 68 #[.agg #[.int .i64 a, .int .i64 b], .bool true] w (Gives (.tuple #[.int .i64 (-2 * a), .int .i64 (a * a - 4 * b)]) w)
    generalize -2 * a = A at *
    generalize a * a - 4 * b = B at *
    go_enter Try.func68, Try.ntmps68
    go_wp2_with fail
    refine (HD.out _).mono ?_
    rintro e wa ⟨rfl, hba⟩; have hza := hba.size; (try simp only [World.size_alloc, World.size_setCell, World.size_drew, World.heap_drewN] at hza); try (refine keepc hba (w.heap.size) ?_ ?_; (focus (first | omega | (simp <;> omega))); intro hca_0 hfa_0 hla_0); try (refine keepc hba (w.heap.size + 1) ?_ ?_; (focus (first | omega | (simp <;> omega))); intro hca_1 hfa_1 hla_1); try (refine keepc hba (w.heap.size + 1 + 1) ?_ ?_; (focus (first | omega | (simp <;> omega))); intro hca_2 hfa_2 hla_2)
    go_wp2
    go_ret2
    exact gives rfl (by repeat' (first | (with_reducible exact Below.refl _ _) | (with_reducible assumption) | (with_reducible refine Below.alloc ?_ ?_ _) | (with_reducible refine Below.setCell ?_ ?_ _) | (with_reducible refine Below.drew ?_) | (with_reducible refine below_drewN ?_ _) | (apply bthen2; (with_reducible assumption)) | go_size))

noncomputable def ddL (a b : Int) (d : Bool) : List Int := dvp (pf (max (sB a b d) (-(sB a b d))))
theorem descentDivisors_any (a b : Int) (d : Bool) (h : isT a b = true) (w : World) : Calls Try.prog 41 #[.agg #[.int .i64 a, .int .i64 b], .bool d] w (GivesOwn (ddL a b d) w) := by
  have HS := Lib.hid (fun w => side_any a b d h w)
  obtain ⟨r1, r2⟩ := sB_rng (d := d) h
  have HQ := Lib.hid (fun w => squarefreeDivisors_any (sB a b d) r1 (by omega) w)
  unfold ddL
  generalize sA a b d = A at *
  generalize sB a b d = B at *
  generalize dvp (pf (max B (-B))) = L at *
  clear r1 r2 h
  go_enter Try.func41, Try.ntmps41
  go_wp2_with fail
  refine (HS.out _).mono ?_
  rintro e wa ⟨rfl, hba⟩; have hza := hba.size; (try simp only [World.size_alloc, World.size_setCell, World.size_drew, World.heap_drewN] at hza); try (refine keepc hba (w.heap.size) ?_ ?_; (focus (first | omega | (simp <;> omega))); intro hca_0 hfa_0 hla_0); try (refine keepc hba (w.heap.size + 1) ?_ ?_; (focus (first | omega | (simp <;> omega))); intro hca_1 hfa_1 hla_1); try (refine keepc hba (w.heap.size + 1 + 1) ?_ ?_; (focus (first | omega | (simp <;> omega))); intro hca_2 hfa_2 hla_2)
  go_wp2_with fail
  refine (HQ.out _).mono ?_
  rintro e wb ⟨a3, l3, c3, rfl, ho, hbb⟩
  go_wp2_with fail
  go_ret
  exact ⟨_, _, _, rfl, ho.mono (by omega), (by repeat' (first | (with_reducible exact Below.refl _ _) | (with_reducible assumption) | (with_reducible refine Below.alloc ?_ ?_ _) | (with_reducible refine Below.setCell ?_ ?_ _) | (with_reducible refine Below.drew ?_) | (with_reducible refine below_drewN ?_ _) | (apply bthen2; (with_reducible assumption)) | go_size))⟩
theorem dsDivisors_any (a b : Int) (d : Bool) (h : isT a b = true) (w : World) : Calls Try.prog 39 #[.agg #[.int .i64 a, .int .i64 b], .bool d] w (GivesOwn (ddL a b d) w) := by
  have HS := Lib.hid (fun w => dsSide_any a b d h w)
  obtain ⟨r1, r2⟩ := sB_rng (d := d) h
  have HQ := Lib.hid (fun w => tcDivisors_any (sB a b d) r1 (by omega) w)
  unfold ddL
  generalize sA a b d = A at *
  generalize sB a b d = B at *
  generalize dvp (pf (max B (-B))) = L at *
  clear r1 r2 h
  go_enter Try.func39, Try.ntmps39
  go_wp2_with fail
  refine (HS.out _).mono ?_
  rintro e wa ⟨rfl, hba⟩; have hza := hba.size; (try simp only [World.size_alloc, World.size_setCell, World.size_drew, World.heap_drewN] at hza); try (refine keepc hba (w.heap.size) ?_ ?_; (focus (first | omega | (simp <;> omega))); intro hca_0 hfa_0 hla_0); try (refine keepc hba (w.heap.size + 1) ?_ ?_; (focus (first | omega | (simp <;> omega))); intro hca_1 hfa_1 hla_1); try (refine keepc hba (w.heap.size + 1 + 1) ?_ ?_; (focus (first | omega | (simp <;> omega))); intro hca_2 hfa_2 hla_2)
  go_wp2_with fail
  refine (HQ.out _).mono ?_
  rintro e wb ⟨a3, l3, c3, rfl, ho, hbb⟩
  go_wp2_with fail
  go_ret
  exact ⟨_, _, _, rfl, ho.mono (by omega), (by repeat' (first | (with_reducible exact Below.refl _ _) | (with_reducible assumption) | (with_reducible refine Below.alloc ?_ ?_ _) | (with_reducible refine Below.setCell ?_ ?_ _) | (with_reducible refine Below.drew ?_) | (with_reducible refine below_drewN ?_ _) | (apply bthen2; (with_reducible assumption)) | go_size))⟩

def GivesIB (xs : List Int) (ok : Bool) (w : World) (e : Ending) (w' : World) : Prop := ∃ a l c, e = .returned (.tuple #[.slice a l c, .bool ok]) ∧ Own w' w.heap.size (.slice a l c) xs ∧ Below w.heap.size w w'
noncomputable def ddR (a b : Int) (d : Bool) : List Int := if isT a b = true then ddL a b d else []
theorem ddL_len {a b : Int} {d : Bool} (h : isT a b = true) : (ddL a b d).length ≤ 400000 := by
  obtain ⟨r1, r2⟩ := sB_rng (d := d) h
  obtain ⟨h1, h2⟩ := dvs_dvp (N := max (sB a b d) (-(sB a b d))) (by omega)
  have := h1.small (by simp)
  have := h2.len h1.nd
  unfold ddL
  omega
theorem DescentDivisors_any (a b : Int) (d : Bool) (w : World) : Calls Try.prog 19 #[.agg #[.int .i64 a, .int .i64 b], .bool d] w (GivesIB (ddR a b d) (isT a b) w) := by
  have HG := Lib.hid (fun w => isTwoCurve_any a b w)
  unfold ddR
  cases g : isT a b
  · rw [g] at HG
    simp only [Bool.false_eq_true, if_false]
    go_enter Try.func19, Try.ntmps19
    go_wp2_with fail
    refine (HG.out _).mono ?_
    rintro e wa ⟨rfl, hba⟩; have hza := hba.size; (try simp only [World.size_alloc, World.size_setCell, World.size_drew, World.heap_drewN] at hza); try (refine keepc hba (w.heap.size) ?_ ?_; (focus (first | omega | (simp <;> omega))); intro hca_0 hfa_0 hla_0); try (refine keepc hba (w.heap.size + 1) ?_ ?_; (focus (first | omega | (simp <;> omega))); intro hca_1 hfa_1 hla_1); try (refine keepc hba (w.heap.size + 1 + 1) ?_ ?_; (focus (first | omega | (simp <;> omega))); intro hca_2 hfa_2 hla_2)
    go_wp2
    go_ret2
    exact ⟨_, _, _, rfl, Own.nil _ _, (by repeat' (first | (with_reducible exact Below.refl _ _) | (with_reducible assumption) | (with_reducible refine Below.alloc ?_ ?_ _) | (with_reducible refine Below.setCell ?_ ?_ _) | (with_reducible refine Below.drew ?_) | (with_reducible refine below_drewN ?_ _) | (apply bthen2; (with_reducible assumption)) | go_size))⟩
  · rw [g] at HG
    have HD := Lib.hid (fun w => descentDivisors_any a b d g w)
    simp only [if_true]
    generalize ddL a b d = L at *
    clear g
    go_enter Try.func19, Try.ntmps19
    go_wp2_with fail
    refine (HG.out _).mono ?_
    rintro e wa ⟨rfl, hba⟩; have hza := hba.size; (try simp only [World.size_alloc, World.size_setCell, World.size_drew, World.heap_drewN] at hza); try (refine keepc hba (w.heap.size) ?_ ?_; (focus (first | omega | (simp <;> omega))); intro hca_0 hfa_0 hla_0); try (refine keepc hba (w.heap.size + 1) ?_ ?_; (focus (first | omega | (simp <;> omega))); intro hca_1 hfa_1 hla_1); try (refine keepc hba (w.heap.size + 1 + 1) ?_ ?_; (focus (first | omega | (simp <;> omega))); intro hca_2 hfa_2 hla_2)
    go_wp2_with fail
    refine (HD.out _).mono ?_
    rintro e wb ⟨a3, l3, c3, rfl, ho, hbb⟩
    go_wp2_with fail
    go_ret2
    exact ⟨_, _, _, rfl, ho.mono (by omega), (by repeat' (first | (with_reducible exact Below.refl _ _) | (with_reducible assumption) | (with_reducible refine Below.alloc ?_ ?_ _) | (with_reducible refine Below.setCell ?_ ?_ _) | (with_reducible refine Below.drew ?_) | (with_reducible refine below_drewN ?_ _) | (apply bthen2; (with_reducible assumption)) | go_size))⟩
theorem sDescentDivisors_any (a b : Int) (d : Bool) (w : World) : Calls Try.prog 17 #[.agg #[.int .i64 a, .int .i64 b], .bool d] w (GivesIB (ddR a b d) (isT a b) w) := by
  have HG := Lib.hid (fun w => tcGood_any a b w)
  unfold ddR
  cases g : isT a b
  · rw [g] at HG
    simp only [Bool.false_eq_true, if_false]
    go_enter Try.func17, Try.ntmps17
    go_wp2_with fail
    refine (HG.out _).mono ?_
    rintro e wa ⟨rfl, hba⟩; have hza := hba.size; (try simp only [World.size_alloc, World.size_setCell, World.size_drew, World.heap_drewN] at hza); try (refine keepc hba (w.heap.size) ?_ ?_; (focus (first | omega | (simp <;> omega))); intro hca_0 hfa_0 hla_0); try (refine keepc hba (w.heap.size + 1) ?_ ?_; (focus (first | omega | (simp <;> omega))); intro hca_1 hfa_1 hla_1); try (refine keepc hba (w.heap.size + 1 + 1) ?_ ?_; (focus (first | omega | (simp <;> omega))); intro hca_2 hfa_2 hla_2)
    go_wp2
    go_ret2
    exact ⟨_, _, _, rfl, Own.nil _ _, (by repeat' (first | (with_reducible exact Below.refl _ _) | (with_reducible assumption) | (with_reducible refine Below.alloc ?_ ?_ _) | (with_reducible refine Below.setCell ?_ ?_ _) | (with_reducible refine Below.drew ?_) | (with_reducible refine below_drewN ?_ _) | (apply bthen2; (with_reducible assumption)) | go_size))⟩
  · rw [g] at HG
    have HD := Lib.hid (fun w => dsDivisors_any a b d g w)
    simp only [if_true]
    generalize ddL a b d = L at *
    clear g
    go_enter Try.func17, Try.ntmps17
    go_wp2_with fail
    refine (HG.out _).mono ?_
    rintro e wa ⟨rfl, hba⟩; have hza := hba.size; (try simp only [World.size_alloc, World.size_setCell, World.size_drew, World.heap_drewN] at hza); try (refine keepc hba (w.heap.size) ?_ ?_; (focus (first | omega | (simp <;> omega))); intro hca_0 hfa_0 hla_0); try (refine keepc hba (w.heap.size + 1) ?_ ?_; (focus (first | omega | (simp <;> omega))); intro hca_1 hfa_1 hla_1); try (refine keepc hba (w.heap.size + 1 + 1) ?_ ?_; (focus (first | omega | (simp <;> omega))); intro hca_2 hfa_2 hla_2)
    go_wp2_with fail
    refine (HD.out _).mono ?_
    rintro e wb ⟨a3, l3, c3, rfl, ho, hbb⟩
    go_wp2_with fail
    go_ret2
    exact ⟨_, _, _, rfl, ho.mono (by omega), (by repeat' (first | (with_reducible exact Below.refl _ _) | (with_reducible assumption) | (with_reducible refine Below.alloc ?_ ?_ _) | (with_reducible refine Below.setCell ?_ ?_ _) | (with_reducible refine Below.drew ?_) | (with_reducible refine below_drewN ?_ _) | (apply bthen2; (with_reducible assumption)) | go_size))⟩
theorem ddR_len (a b : Int) (d : Bool) : (ddR a b d).length ≤ 400000 := by
  unfold ddR
  split
  · rename_i h; exact ddL_len h
  · simp

set_option maxRecDepth 100000 in
set_option maxHeartbeats 2000000 in
theorem walk_FnExactDescentDivisors (a b : Int) (d : Bool) (w : World) (_w0 : (Lit.int .i64 a).wf = true) (_w1 : (Lit.int .i64 b).wf = true) : Calls Try.prog 4 #[.agg #[.int .i64 a, .int .i64 b], .bool d] w (Gives (.bool true) w) := by
  have HS := Lib.hid (fun w => sDescentDivisors_any a b d w)
  have HI := Lib.hid (fun w => DescentDivisors_any a b d w)
  have hlen : (ddR a b d).length ≤ 400000 := ddR_len a b d
  generalize ddR a b d = R at *
  generalize isT a b = ok at *
  go_enter Try.func4, Try.ntmps4
  go_wp2_with fail
  (refine (toTwoCurve_any _ _ _).mono ?_; rintro e wa ⟨rfl, hba⟩; have hza := hba.size; (try simp only [World.size_alloc, World.size_setCell, World.size_drew, World.heap_drewN] at hza); try (refine keepc hba (w.heap.size) ?_ ?_; (focus (first | omega | (simp <;> omega))); intro hca_0 hfa_0 hla_0); try (refine keepc hba (w.heap.size + 1) ?_ ?_; (focus (first | omega | (simp <;> omega))); intro hca_1 hfa_1 hla_1); try (refine keepc hba (w.heap.size + 1 + 1) ?_ ?_; (focus (first | omega | (simp <;> omega))); intro hca_2 hfa_2 hla_2))
  go_wp2_with fail
  refine (HS.out _).mono ?_; rintro e wb ⟨sa, sl, sc, rfl, ownb, hbb⟩
  have hzb := hbb.size; (try simp only [World.size_alloc, World.size_setCell, World.size_drew, World.heap_drewN] at hzb); try (refine keepc hbb (w.heap.size) ?_ ?_; (focus (first | omega | (simp <;> omega))); intro hcb_0 hfb_0 hlb_0); try (refine keepc hbb (w.heap.size + 1) ?_ ?_; (focus (first | omega | (simp <;> omega))); intro hcb_1 hfb_1 hlb_1); try (refine keepc hbb (w.heap.size + 1 + 1) ?_ ?_; (focus (first | omega | (simp <;> omega))); intro hcb_2 hfb_2 hlb_2)
  go_wp2_with fail
  (refine (toTwoCurve_any _ _ _).mono ?_; rintro e wc ⟨rfl, hbc⟩; have hzc := hbc.size; (try simp only [World.size_alloc, World.size_setCell, World.size_drew, World.heap_drewN] at hzc); try (refine keepc hbc (w.heap.size) ?_ ?_; (focus (first | omega | (simp <;> omega))); intro hcc_0 hfc_0 hlc_0); try (refine keepc hbc (w.heap.size + 1) ?_ ?_; (focus (first | omega | (simp <;> omega))); intro hcc_1 hfc_1 hlc_1); try (refine keepc hbc (w.heap.size + 1 + 1) ?_ ?_; (focus (first | omega | (simp <;> omega))); intro hcc_2 hfc_2 hlc_2))
  go_wp2_with fail
  refine (HI.out _).mono ?_; rintro e wd ⟨ga, gl, gc, rfl, ownd, hbd⟩
  have hzd := hbd.size; (try simp only [World.size_alloc, World.size_setCell, World.size_drew, World.heap_drewN] at hzd); try (refine keepc hbd (w.heap.size) ?_ ?_; (focus (first | omega | (simp <;> omega))); intro hcd_0 hfd_0 hld_0); try (refine keepc hbd (w.heap.size + 1) ?_ ?_; (focus (first | omega | (simp <;> omega))); intro hcd_1 hfd_1 hld_1); try (refine keepc hbd (w.heap.size + 1 + 1) ?_ ?_; (focus (first | omega | (simp <;> omega))); intro hcd_2 hfd_2 hld_2)
  go_wp2_with fail
  refine (eqIntS_same _ _ R _ ?_ ?_).mono ?_
  · refine Ints.below ownd.ints ?_; repeat' (first | (with_reducible exact Below.refl _ _) | (with_reducible assumption) | (with_reducible refine Below.alloc ?_ ?_ _) | (with_reducible refine Below.setCell ?_ ?_ _) | (with_reducible refine Below.drew ?_) | (with_reducible refine below_drewN ?_ _) | (apply bthen2; (with_reducible assumption)) | go_size)
  · refine Ints.below ownb.ints ?_; repeat' (first | (with_reducible exact Below.refl _ _) | (with_reducible assumption) | (with_reducible refine Below.alloc ?_ ?_ _) | (with_reducible refine Below.setCell ?_ ?_ _) | (with_reducible refine Below.drew ?_) | (with_reducible refine below_drewN ?_ _) | (apply bthen2; (with_reducible assumption)) | go_size)
  rintro e we ⟨rfl, hbe⟩
  have hze := hbe.size; (try simp only [World.size_alloc, World.size_setCell, World.size_drew, World.heap_drewN] at hze); try (refine keepc hbe (w.heap.size) ?_ ?_; (focus (first | omega | (simp <;> omega))); intro hce_0 hfe_0 hle_0); try (refine keepc hbe (w.heap.size + 1) ?_ ?_; (focus (first | omega | (simp <;> omega))); intro hce_1 hfe_1 hle_1); try (refine keepc hbe (w.heap.size + 1 + 1) ?_ ?_; (focus (first | omega | (simp <;> omega))); intro hce_2 hfe_2 hle_2)
  have owne := ownd.below hbe
  go_wp2_with fail
  refine (markIntS_any wc.heap.size _ R 1 _ ?_ (by omega) (by omega)).mono ?_
  · exact owne
  rintro e wf ⟨rfl, ownf, hon⟩
  have hbf := mark_belowI ownd hbd hbe hon
  have hzf := hbf.size; (try simp only [World.size_alloc, World.size_setCell, World.size_drew, World.heap_drewN] at hzf); try (refine keepc hbf (w.heap.size) ?_ ?_; (focus (first | omega | (simp <;> omega))); intro hcf_0 hff_0 hlf_0); try (refine keepc hbf (w.heap.size + 1) ?_ ?_; (focus (first | omega | (simp <;> omega))); intro hcf_1 hff_1 hlf_1); try (refine keepc hbf (w.heap.size + 1 + 1) ?_ ?_; (focus (first | omega | (simp <;> omega))); intro hcf_2 hff_2 hlf_2)
  go_wp2_with fail
  refine (heldIntS_any _ R.length 1 _ ?_ (by omega) (by omega)).mono ?_
  · exact ownf.ints
  rintro e wf' ⟨rfl, rfl⟩
  go_wp2_with fail
  (refine (toTwoCurve_any _ _ _).mono ?_; rintro e wg ⟨rfl, hbg⟩; have hzg := hbg.size; (try simp only [World.size_alloc, World.size_setCell, World.size_drew, World.heap_drewN] at hzg); try (refine keepc hbg (w.heap.size) ?_ ?_; (focus (first | omega | (simp <;> omega))); intro hcg_0 hfg_0 hlg_0); try (refine keepc hbg (w.heap.size + 1) ?_ ?_; (focus (first | omega | (simp <;> omega))); intro hcg_1 hfg_1 hlg_1); try (refine keepc hbg (w.heap.size + 1 + 1) ?_ ?_; (focus (first | omega | (simp <;> omega))); intro hcg_2 hfg_2 hlg_2))
  go_wp2_with fail
  refine (HI.out _).mono ?_; rintro e wh ⟨ha, hl, hc, rfl, ownh, hbh⟩
  have hzh := hbh.size; (try simp only [World.size_alloc, World.size_setCell, World.size_drew, World.heap_drewN] at hzh); try (refine keepc hbh (w.heap.size) ?_ ?_; (focus (first | omega | (simp <;> omega))); intro hch_0 hfh_0 hlh_0); try (refine keepc hbh (w.heap.size + 1) ?_ ?_; (focus (first | omega | (simp <;> omega))); intro hch_1 hfh_1 hlh_1); try (refine keepc hbh (w.heap.size + 1 + 1) ?_ ?_; (focus (first | omega | (simp <;> omega))); intro hch_2 hfh_2 hlh_2)
  go_wp2_with fail
  refine (eqIntS_same _ _ R _ ?_ ?_).mono ?_
  · refine Ints.below ownh.ints ?_; repeat' (first | (with_reducible exact Below.refl _ _) | (with_reducible assumption) | (with_reducible refine Below.alloc ?_ ?_ _) | (with_reducible refine Below.setCell ?_ ?_ _) | (with_reducible refine Below.drew ?_) | (with_reducible refine below_drewN ?_ _) | (apply bthen2; (with_reducible assumption)) | go_size)
  · refine Ints.below ownb.ints ?_; repeat' (first | (with_reducible exact Below.refl _ _) | (with_reducible assumption) | (with_reducible refine Below.alloc ?_ ?_ _) | (with_reducible refine Below.setCell ?_ ?_ _) | (with_reducible refine Below.drew ?_) | (with_reducible refine below_drewN ?_ _) | (apply bthen2; (with_reducible assumption)) | go_size)
  rintro e wi ⟨rfl, hbi⟩
  have hzi := hbi.size; (try simp only [World.size_alloc, World.size_setCell, World.size_drew, World.heap_drewN] at hzi); try (refine keepc hbi (w.heap.size) ?_ ?_; (focus (first | omega | (simp <;> omega))); intro hci_0 hfi_0 hli_0); try (refine keepc hbi (w.heap.size + 1) ?_ ?_; (focus (first | omega | (simp <;> omega))); intro hci_1 hfi_1 hli_1); try (refine keepc hbi (w.heap.size + 1 + 1) ?_ ?_; (focus (first | omega | (simp <;> omega))); intro hci_2 hfi_2 hli_2)
  go_wp2_with fail
  refine (heldIntS_any _ R.length 1 _ ?_ (by omega) (by omega)).mono ?_
  · refine Ints.below ownf.ints ?_; repeat' (first | (with_reducible exact Below.refl _ _) | (with_reducible assumption) | (with_reducible refine Below.alloc ?_ ?_ _) | (with_reducible refine Below.setCell ?_ ?_ _) | (with_reducible refine Below.drew ?_) | (with_reducible refine below_drewN ?_ _) | (apply bthen2; (with_reducible assumption)) | go_size)
  rintro e wi' ⟨rfl, rfl⟩
  go_wp2
  go_ret
  exact gives rfl (by repeat' (first | (with_reducible exact Below.refl _ _) | (with_reducible assumption) | (with_reducible refine Below.alloc ?_ ?_ _) | (with_reducible refine Below.setCell ?_ ?_ _) | (with_reducible refine Below.drew ?_) | (with_reducible refine below_drewN ?_ _) | (apply bthen2; (with_reducible assumption)) | go_size))

theorem tdiv_le (B d : Int) : (B.tdiv d).natAbs ≤ B.natAbs := by rw [Int.natAbs_tdiv]; exact Nat.div_le_self _ _
theorem descentQuartic_any (a b : Int) (s : Bool) (d : Int) (h : isT a b = true) (hd : d ≠ 0) (w : World) : Calls Try.prog 45 #[.agg #[.int .i64 a, .int .i64 b], .bool s, .int .i64 d] w (Gives (.agg #[.int .i64 d, .int .i64 (sA a b s), .int .i64 ((sB a b s).tdiv d)]) w) := by
  have HS := Lib.hid (fun w => side_any a b s h w)
  obtain ⟨r1, r2⟩ := sB_rng (d := s) h
  have hq := tdiv_le (sB a b s) d
  have hw : wrap64 ((sB a b s).tdiv d) = (sB a b s).tdiv d := win (by omega)
  generalize sA a b s = A at *
  generalize sB a b s = B at *
  have HW := Lib.hid hw
  clear r1 h hq hw
  go_enter Try.func45, Try.ntmps45
  go_wp2_with fail
  refine (HS.out _).mono ?_
  rintro e wa ⟨rfl, hba⟩; have hza := hba.size; (try simp only [World.size_alloc, World.size_setCell, World.size_drew, World.heap_drewN] at hza); try (refine keepc hba (w.heap.size) ?_ ?_; (focus (first | omega | (simp <;> omega))); intro hca_0 hfa_0 hla_0); try (refine keepc hba (w.heap.size + 1) ?_ ?_; (focus (first | omega | (simp <;> omega))); intro hca_1 hfa_1 hla_1); try (refine keepc hba (w.heap.size + 1 + 1) ?_ ?_; (focus (first | omega | (simp <;> omega))); intro hca_2 hfa_2 hla_2)
  go_wp2_with fail
  refine bodyPost_ret (v := .agg #[.int .i64 d, .int .i64 A, .int .i64 (B.tdiv d)]) (by simp [results, Try.results45, go_sem, hca_1, hla_1, HW.out]) rfl (gives rfl (by repeat' (first | (with_reducible exact Below.refl _ _) | (with_reducible assumption) | (with_reducible refine Below.alloc ?_ ?_ _) | (with_reducible refine Below.setCell ?_ ?_ _) | (with_reducible refine Below.drew ?_) | (with_reducible refine below_drewN ?_ _) | (apply bthen2; (with_reducible assumption)) | go_size)))
theorem dsQuartic_any (a b : Int) (s : Bool) (d : Int) (h : isT a b = true) (hd : d ≠ 0) (w : World) : Calls Try.prog 43 #[.agg #[.int .i64 a, .int .i64 b], .bool s, .int .i64 d] w (Gives (.agg #[.int .i64 d, .int .i64 (sA a b s), .int .i64 ((sB a b s).tdiv d)]) w) := by
  have HS := Lib.hid (fun w => dsSide_any a b s h w)
  obtain ⟨r1, r2⟩ := sB_rng (d := s) h
  have hq := tdiv_le (sB a b s) d
  have hw : wrap64 ((sB a b s).tdiv d) = (sB a b s).tdiv d := win (by omega)
  generalize sA a b s = A at *
  generalize sB a b s = B at *
  have HW := Lib.hid hw
  clear r1 h hq hw
  go_enter Try.func43, Try.ntmps43
  go_wp2_with fail
  refine (HS.out _).mono ?_
  rintro e wa ⟨rfl, hba⟩; have hza := hba.size; (try simp only [World.size_alloc, World.size_setCell, World.size_drew, World.heap_drewN] at hza); try (refine keepc hba (w.heap.size) ?_ ?_; (focus (first | omega | (simp <;> omega))); intro hca_0 hfa_0 hla_0); try (refine keepc hba (w.heap.size + 1) ?_ ?_; (focus (first | omega | (simp <;> omega))); intro hca_1 hfa_1 hla_1); try (refine keepc hba (w.heap.size + 1 + 1) ?_ ?_; (focus (first | omega | (simp <;> omega))); intro hca_2 hfa_2 hla_2)
  go_wp2_with fail
  refine bodyPost_ret (v := .agg #[.int .i64 d, .int .i64 A, .int .i64 (B.tdiv d)]) (by simp [results, Try.results43, go_sem, hca_1, hla_1, HW.out]) rfl (gives rfl (by repeat' (first | (with_reducible exact Below.refl _ _) | (with_reducible assumption) | (with_reducible refine Below.alloc ?_ ?_ _) | (with_reducible refine Below.setCell ?_ ?_ _) | (with_reducible refine Below.drew ?_) | (with_reducible refine below_drewN ?_ _) | (apply bthen2; (with_reducible assumption)) | go_size)))

end Go.Proofs.Ytldmledjdcphmaa
