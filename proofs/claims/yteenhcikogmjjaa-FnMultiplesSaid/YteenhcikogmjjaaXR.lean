import Derived.Test.YteenhcikogmjjaaBox
import Derived.Test.YteenhcikogmjjaaPon
set_option linter.unusedSimpArgs false
set_option linter.unusedVariables false
namespace Go.Proofs.Yteenhcikogmjjaa
open Go.RowKit
/-! ### the ratio of a point's x -/

def xrOk (a b x y e : Int) : Bool := ptB a b x y e && decide (e ≠ 0)
def xrN (a b x y e : Int) : Bool := xrOk a b x y e && decide (x < 0)
def xrX (a b x y e : Int) : List Int := if xrOk a b x y e then dg x.natAbs else []
def xrD (a b x y e : Int) : Bool := xrOk a b x y e && decide (e * e < 0)
def xrY (a b x y e : Int) : List Int := if xrOk a b x y e then dg (e * e).natAbs else []
theorem xr_rng {a b x y e : Int} (h : xrOk a b x y e = true) : (-10000 ≤ x ∧ x ≤ 10000) ∧ (1 ≤ e ∧ e ≤ 20) ∧ (1 ≤ e * e ∧ e * e ≤ 400) := by
  unfold xrOk ptB at h
  simp only [Bool.and_eq_true, Bool.or_eq_true, decide_eq_true_eq, inB_iff] at h
  obtain ⟨⟨-, h1⟩, h2⟩ := h
  rcases h1 with h1 | h1
  · exact absurd h1.2.2 h2
  · obtain ⟨⟨⟨h3, h4⟩, -⟩, -⟩ := h1
    refine ⟨h3, h4, ?_⟩
    have a1 : 1 * 1 ≤ e * e := Int.mul_le_mul h4.1 h4.1 (by omega) (by omega)
    have a2 : e * e ≤ 20 * 20 := Int.mul_le_mul h4.2 h4.2 (by omega) (by omega)
    omega

theorem IsPointOf_any (a b x y e : Int) (w : World) : Calls Try.prog 23 #[.agg #[.int .i64 a, .int .i64 b], .agg #[.int .i64 x, .int .i64 y, .int .i64 e]] w (Gives (.bool (ptB a b x y e)) w) := by
  have HC := Lib.hid (fun w => ecGood_any a b w)
  cases gC : isC a b
  · rw [gC] at HC
    rw [show ptB a b x y e = false by unfold ptB; rw [gC]; rfl]
    clear gC
    go_enter Try.func23, Try.ntmps23
    go_wp2_with fail
    refine (HC.out _).mono ?_
    rintro e wa ⟨rfl, hba⟩; have hza := hba.size; (try simp only [World.size_alloc, World.size_setCell, World.size_drew, World.heap_drewN] at hza); try (refine keepc hba (w.heap.size) ?_ ?_; (focus (first | omega | (simp <;> omega))); intro hca_0 hfa_0 hla_0); try (refine keepc hba (w.heap.size + 1) ?_ ?_; (focus (first | omega | (simp <;> omega))); intro hca_1 hfa_1 hla_1); try (refine keepc hba (w.heap.size + 1 + 1) ?_ ?_; (focus (first | omega | (simp <;> omega))); intro hca_2 hfa_2 hla_2)
    go_wp2
    go_ret; exact gives rfl (by repeat' (first | (with_reducible exact Below.refl _ _) | (with_reducible assumption) | (with_reducible refine Below.alloc ?_ ?_ _) | (with_reducible refine Below.setCell ?_ ?_ _) | (with_reducible refine Below.drew ?_) | (with_reducible refine below_drewN ?_ _) | (apply bthen2; (with_reducible assumption)) | go_size))
  · rw [gC] at HC
    have HP := Lib.hid (fun w => ptOn_any a b x y e gC w)
    clear gC
    generalize ptB a b x y e = B at *
    go_enter Try.func23, Try.ntmps23
    go_wp2_with fail
    refine (HC.out _).mono ?_
    rintro e wa ⟨rfl, hba⟩; have hza := hba.size; (try simp only [World.size_alloc, World.size_setCell, World.size_drew, World.heap_drewN] at hza); try (refine keepc hba (w.heap.size) ?_ ?_; (focus (first | omega | (simp <;> omega))); intro hca_0 hfa_0 hla_0); try (refine keepc hba (w.heap.size + 1) ?_ ?_; (focus (first | omega | (simp <;> omega))); intro hca_1 hfa_1 hla_1); try (refine keepc hba (w.heap.size + 1 + 1) ?_ ?_; (focus (first | omega | (simp <;> omega))); intro hca_2 hfa_2 hla_2)
    go_wp2_with fail
    refine (HP.out _).mono ?_
    rintro e wb ⟨rfl, hbb⟩; have hzb := hbb.size; (try simp only [World.size_alloc, World.size_setCell, World.size_drew, World.heap_drewN] at hzb); try (refine keepc hbb (w.heap.size) ?_ ?_; (focus (first | omega | (simp <;> omega))); intro hcb_0 hfb_0 hlb_0); try (refine keepc hbb (w.heap.size + 1) ?_ ?_; (focus (first | omega | (simp <;> omega))); intro hcb_1 hfb_1 hlb_1); try (refine keepc hbb (w.heap.size + 1 + 1) ?_ ?_; (focus (first | omega | (simp <;> omega))); intro hcb_2 hfb_2 hlb_2)
    go_wp2
    go_ret; exact gives rfl (by repeat' (first | (with_reducible exact Below.refl _ _) | (with_reducible assumption) | (with_reducible refine Below.alloc ?_ ?_ _) | (with_reducible refine Below.setCell ?_ ?_ _) | (with_reducible refine Below.drew ?_) | (with_reducible refine below_drewN ?_ _) | (apply bthen2; (with_reducible assumption)) | go_size))

end Go.Proofs.Yteenhcikogmjjaa
