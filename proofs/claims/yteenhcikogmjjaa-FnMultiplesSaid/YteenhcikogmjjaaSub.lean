import Derived.Test.YteenhcikogmjjaaSum
import Derived.Test.YteenhcikogmjjaaCmpZ
set_option linter.unusedSimpArgs false
set_option linter.unusedVariables false
namespace Go.Proofs.Yteenhcikogmjjaa
open Go.RowKit
/-! ### opposites, differences, products with numbers -/

theorem sgn_neg (z : Int) : ((!decide (z < 0)) && decide (0 < tz (dg z.natAbs) (dg z.natAbs).length)) = decide (-z < 0) := by
  rw [tz_can (can_dg _), len0]
  by_cases h : z < 0
  · have h2 : ¬ -z < 0 := by omega
    simp [h, h2]; omega
  · by_cases h0 : z = 0
    · subst h0; simp
    · have h2 : -z < 0 := by omega
      have h3 : z.natAbs ≠ 0 := by omega
      simp [h, h2, h3, h0]; omega
theorem negated_any (z : Int) (a : Option Addr) (len cap : Nat) (w : World) (hx : Ints w (.slice a len cap) (dg z.natAbs)) (lx : (dg z.natAbs).length ≤ 1000000) :
    Calls Try.prog 47 #[.agg #[.bool (decide (z < 0)), .slice a len cap]] w (GivesZ (-z) w) := by
  have HT := Lib.hid (fun W h => trimmed_any (!decide (z < 0)) a len cap (dg z.natAbs) W h (by omega))
  rw [sgn_neg, trim_can (can_dg _)] at HT
  have HX := Lib.hid hx
  clear hx lx
  unfold GivesZ
  rw [Int.natAbs_neg]
  generalize decide (-z < 0) = m at *
  generalize dg z.natAbs = D at *
  obtain ⟨n, hn⟩ : ∃ n, decide (z < 0) = n := ⟨_, rfl⟩
  rw [hn] at HT ⊢
  clear hn
  cases n
  all_goals
    go_enter Try.func47, Try.ntmps47
    go_wp2_with fail
    refine (HT.out _ ?_).mono ?_
    · refine Ints.below HX.out ?_; repeat' (first | (with_reducible exact Below.refl _ _) | (with_reducible assumption) | (with_reducible refine Below.alloc ?_ ?_ _) | (with_reducible refine Below.setCell ?_ ?_ _) | (with_reducible refine Below.drew ?_) | (with_reducible refine below_drewN ?_ _) | (apply bthen2; (with_reducible assumption)) | go_size)
    rintro e wa ⟨a3, l3, c3, rfl, ho3, hba⟩
    have hza := hba.size; (try simp only [World.size_alloc, World.size_setCell, World.size_drew, World.heap_drewN] at hza); try (refine keepc hba (w.heap.size) ?_ ?_; (focus (first | omega | (simp <;> omega))); intro hca_0 hfa_0 hla_0); try (refine keepc hba (w.heap.size + 1) ?_ ?_; (focus (first | omega | (simp <;> omega))); intro hca_1 hfa_1 hla_1); try (refine keepc hba (w.heap.size + 1 + 1) ?_ ?_; (focus (first | omega | (simp <;> omega))); intro hca_2 hfa_2 hla_2)
    go_wp2_with fail
    refine bodyPost_ret (v := .agg #[.bool m, .slice a3 l3 c3]) (by simp [results, Try.results47, go_sem, hca_1, hla_1]) rfl ⟨_, _, _, rfl, ((ho3.set (p := ⟨w.heap.size + 1, 0, none⟩) (by first | (simp; done) | (simp; omega)) _).set (p := ⟨w.heap.size + 1, 1, none⟩) (by first | (simp; done) | (simp; omega)) _).mono (by first | (simp; done) | (simp; omega)), (by repeat' (first | (with_reducible exact Below.refl _ _) | (with_reducible assumption) | (with_reducible refine Below.alloc ?_ ?_ _) | (with_reducible refine Below.setCell ?_ ?_ _) | (with_reducible refine Below.drew ?_) | (with_reducible refine below_drewN ?_ _) | (apply bthen2; (with_reducible assumption)) | go_size))⟩

end Go.Proofs.Yteenhcikogmjjaa
